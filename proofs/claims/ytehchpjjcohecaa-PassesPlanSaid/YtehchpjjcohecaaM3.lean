import Derived.Test.YtehchpjjcohecaaM2
import Derived.Test.YtehchpjjcohecaaXF15
import Derived.Test.YtehchpjjcohecaaXF17
import Derived.Test.YtehchpjjcohecaaXF18
/- What the printed functions ok, key and moved come to. -/
namespace Go.Proofs.Ytehchpjjcohecaa.X
open Go.RowKit Go.Proofs.YtehchpjjcohecaaW.PrintWords Go.Proofs.YtehchpjjcohecaaW.PrintLast Go.Proofs.YtehchpjjcohecaaW.PrintMore
set_option linter.unusedVariables false
set_option linter.unusedSimpArgs false

theorem w64 {x : Int} (h0 : -9223372036854775808 ≤ x) (h1 : x ≤ 9223372036854775807) : wrap64 x = x := by unfold wrap64; omega
theorem rd_nat (xs : List Int) (i : Nat) (h : i < xs.length) : rd xs (i : Int) = xs[i] := by simp [rd, List.getD_eq_getElem?_getD, h]

theorem key_l0 (s : List Int) (hs : ∀ x ∈ s, 0 ≤ x ∧ x < 12) (hn : s.length ≤ 5) : ∀ (d i : Nat) (a : Int) (k : Nat), i + d = s.length → d < k → 0 ≤ a → a < 12 ^ i →
    passes_key.l0 k a s (s.length : Int) (i : Int) = some (keyF a (s.drop i)) := by
  intro d
  induction d with
  | zero =>
    intro i a k hd hk _ _
    obtain ⟨k, rfl⟩ : ∃ m, k = m + 1 := ⟨k - 1, by omega⟩
    simp only [passes_key.l0]
    rw [if_neg (by omega), List.drop_eq_nil_of_le (by omega)]
    rfl
  | succ d ih =>
    intro i a k hd hk h0 h1
    obtain ⟨k, rfl⟩ : ∃ m, k = m + 1 := ⟨k - 1, by omega⟩
    have hi : i < s.length := by omega
    obtain ⟨hx0, hx1⟩ := hs s[i] (List.getElem_mem hi)
    have hb : a < 248832 := Int.lt_of_lt_of_le h1 (by
      have : i ≤ 4 := by omega
      rcases i with _ | _ | _ | _ | _ | i
      all_goals first | decide | omega)
    simp only [passes_key.l0]
    rw [if_pos (by omega), if_pos (by omega), if_pos (by omega), rd_nat s i hi, w64 (x := a * 12) (by omega) (by omega), w64 (by omega) (by omega), w64 (by omega) (by omega)]
    rw [show ((i : Int) + 1) = ((i + 1 : Nat) : Int) by omega, ih (i + 1) (a * 12 + s[i]) k (by omega) (by omega) (by omega) (by rw [Int.pow_succ]; omega)]
    rw [List.drop_eq_getElem_cons hi]
    rfl
theorem key_f (s : List Int) (hs : ∀ x ∈ s, 0 ≤ x ∧ x < 12) (hn : s.length ≤ 5) (k : Nat) (hk : 6 ≤ k) : passes_key.f k s = some (keyS s) := by
  have := key_l0 s hs hn s.length 0 0 k (by omega) (by omega) (by omega) (by simp)
  simpa [passes_key.f, keyS] using this

theorem key_any0 (s : List Int) : ∀ (d i : Nat) (a : Int) (k : Nat), s.length ≤ 1000 → i + d = s.length → d < k → (Lit.int .i64 a).wf = true →
    ∃ r, passes_key.l0 k a s (s.length : Int) (i : Int) = some r ∧ (Lit.int .i64 r).wf = true := by
  intro d
  induction d with
  | zero =>
    intro i a k hl hd hk hw
    obtain ⟨k, rfl⟩ : ∃ m, k = m + 1 := ⟨k - 1, by omega⟩
    exact ⟨a, by simp only [passes_key.l0]; rw [if_neg (by omega)], hw⟩
  | succ d ih =>
    intro i a k hl hd hk hw
    obtain ⟨k, rfl⟩ : ∃ m, k = m + 1 := ⟨k - 1, by omega⟩
    obtain ⟨r, h1, h2⟩ := ih (i + 1) (wrap64 (wrap64 (a * 12) + rd s (i : Int))) k hl (by omega) (by omega) (wrap64_wf _)
    refine ⟨r, ?_, h2⟩
    simp only [passes_key.l0]
    rw [if_pos (by omega), if_pos (by omega), if_pos (by omega), w64 (x := (i : Int) + 1) (by omega) (by omega), show ((i : Int) + 1) = ((i + 1 : Nat) : Int) by omega]
    exact h1
theorem key_any (s : List Int) (hl : s.length ≤ 5) : ∃ r, passes_key.f 100 s = some r ∧ (Lit.int .i64 r).wf = true :=
  key_any0 s s.length 0 0 100 (by omega) (by omega) (by omega) (by decide)

def prevAt (tol s : List Int) (i : Nat) : Option (Int × Int) := if i = 0 then none else some (s.getD (i - 1) 0, tol.getD (i - 1) 0)
theorem ok_l0 (tol s : List Int) (slack : Int) (hl : s.length = tol.length) (hm : s.length ≤ 4294967296) : ∀ (d i k : Nat), i + d = s.length → 2 * d < k → (∀ j, j < i → 0 ≤ s.getD j 0 ∧ s.getD j 0 < 12) →
    passes_puzzle_ok.l0 k s s (s.length : Int) (i : Int) tol slack = some (okL slack (prevAt tol s i) (tol.drop i) (s.drop i)) := by
  intro d
  induction d with
  | zero =>
    intro i k hd hk _
    obtain ⟨k, rfl⟩ : ∃ m, k = m + 1 := ⟨k - 1, by omega⟩
    simp only [passes_puzzle_ok.l0]
    rw [if_neg (by omega), List.drop_eq_nil_of_le (show s.length ≤ i by omega)]
    simp [okL]
  | succ d ih =>
    intro i k hd hk hp
    obtain ⟨k, rfl⟩ : ∃ m, k = m + 1 := ⟨k - 1, by omega⟩
    obtain ⟨k, rfl⟩ : ∃ m, k = m + 1 := ⟨k - 1, by omega⟩
    have hi : i < s.length := by omega
    have hi' : i < tol.length := by omega
    simp only [passes_puzzle_ok.l0]
    rw [if_pos (by omega), if_pos (by omega), if_pos (by omega), rd_nat s i hi, List.drop_eq_getElem_cons hi, List.drop_eq_getElem_cons hi']
    simp only [okL]
    by_cases hx0 : s[i] < 0
    · rw [if_pos hx0]
      simp only [passes_puzzle_ok.j1, if_true]
      rw [decide_eq_false (by omega)]
      simp
    rw [if_neg hx0]
    simp only [passes_puzzle_ok.j1]
    by_cases hx1 : s[i] ≥ 12
    · rw [decide_eq_true hx1, if_pos rfl, decide_eq_false (show ¬ s[i] < 12 by omega)]
      simp
    rw [decide_eq_false hx1, if_neg (by simp), decide_eq_true (show 0 ≤ s[i] by omega), decide_eq_true (show s[i] < 12 by omega)]
    have hpn : ∀ j, j < i + 1 → 0 ≤ s.getD j 0 ∧ s.getD j 0 < 12 := by
      intro j hj
      by_cases e : j = i
      · subst e
        simp [List.getD_eq_getElem?_getD, hi]
        omega
      · exact hp j (by omega)
    have hnext : wrap64 ((i : Int) + 1) = ((i + 1 : Nat) : Int) := by rw [w64 (by omega) (by omega)]; omega
    have hrec := ih (i + 1) k (by omega) (by omega) hpn
    have hprev : prevAt tol s (i + 1) = some (s[i], tol[i]) := by simp [prevAt, List.getD_eq_getElem?_getD, hi, hi']
    rw [hprev] at hrec
    by_cases h0 : i = 0
    · subst h0
      rw [if_pos (by simp), hnext, hrec]
      simp [prevAt]
    · rw [if_neg (by omega)]
      have hw1 : wrap64 ((i : Int) - 1) = ((i - 1 : Nat) : Int) := by rw [w64 (by omega) (by omega)]; omega
      have hr1 : rd s ((i - 1 : Nat) : Int) = s.getD (i - 1) 0 := by simp [rd]
      have ht1 : rd tol ((i - 1 : Nat) : Int) = tol.getD (i - 1) 0 := by simp [rd]
      have ht0 : rd tol (i : Int) = tol[i] := rd_nat tol i hi'
      obtain ⟨q0, q1⟩ := hp (i - 1) (by omega)
      rw [hw1, hr1, ht1, ht0, hnext, hrec, if_pos (by omega), if_pos (by omega), w64 (by omega) (by omega)]
      simp only [prevAt, if_neg h0]
      generalize s.getD (i - 1) 0 = y at *
      generalize tol.getD (i - 1) 0 = u at *
      by_cases c1 : s[i] - y < 0
      · rw [if_pos c1, decide_eq_false (show ¬ 0 ≤ s[i] - y by omega)]; simp
      rw [if_neg c1, decide_eq_true (show 0 ≤ s[i] - y by omega)]
      by_cases c2 : s[i] - y > slack
      · rw [if_pos c2, decide_eq_false (show ¬ s[i] - y ≤ slack by omega)]; simp
      rw [if_neg c2, decide_eq_true (show s[i] - y ≤ slack by omega)]
      by_cases c3 : s[i] - y = 0
      · rw [if_pos c3, decide_eq_true c3, if_pos (by omega), if_pos (by omega), if_pos (by omega)]
        by_cases c4 : tol[i] = u
        · rw [if_pos c4]; simp [c4]
        · rw [if_neg c4]; simp [c4]
      · rw [if_neg c3, decide_eq_false c3]; simp
theorem ok_f (tol s : List Int) (slack : Int) (hl : s.length = tol.length) (hm : s.length ≤ 4294967296) (k : Nat) (hk : 2 * s.length < k) : passes_puzzle_ok.f k tol slack s = some (okL slack none tol s) := by
  have := ok_l0 tol s slack hl hm s.length 0 k (by omega) hk (fun j hj => by omega)
  simpa [passes_puzzle_ok.f, prevAt] using this

theorem bit_eq : ∀ w < 32, ∀ i < 6, (Go.bits .and .i64 (shr .i64 ((w : Nat) : Int) ((i : Nat) : Int)) 1 = 1) ↔ (w / 2 ^ i % 2 = 1) := by decide +kernel
theorem mvN_drop (b : Int) : ∀ (i w : Nat) (l : List Int), (mvN b w l).drop i = mvN b (w / 2 ^ i) (l.drop i)
  | 0, w, l => by simp
  | i + 1, w, [] => by simp [mvN]
  | i + 1, w, x :: xs => by
    simp only [mvN, List.drop_succ_cons]
    rw [mvN_drop b i (w / 2) xs, Nat.div_div_eq_div_mul, Nat.pow_succ, Nat.mul_comm]
theorem moved_l0 (b : Int) (w : Nat) (hb : -2 ≤ b ∧ b ≤ 2) (hw : w < 32) (l : List Int) (hl : l.length ≤ 5) (hr : ∀ x ∈ l, 0 ≤ x ∧ x < 12) : ∀ (d i k : Nat) (c : List Int), i + d = l.length → d < k → c.length = l.length → c.take i = (mvN b w l).take i → c.drop i = l.drop i →
    passes_moved.l0 k c (l.length : Int) (i : Int) b (w : Int) = some (mvN b w l) := by
  intro d
  induction d with
  | zero =>
    intro i k c hd hk hc ht hdr
    obtain ⟨k, rfl⟩ : ∃ m, k = m + 1 := ⟨k - 1, by omega⟩
    simp only [passes_moved.l0]
    rw [if_neg (by omega)]
    rw [List.take_of_length_le (by omega), List.take_of_length_le (by rw [mvN_length]; omega)] at ht
    rw [ht]
  | succ d ih =>
    intro i k c hd hk hc ht hdr
    obtain ⟨k, rfl⟩ : ∃ m, k = m + 1 := ⟨k - 1, by omega⟩
    have hi : i < l.length := by omega
    have hic : i < c.length := by omega
    have hci : c[i] = l[i] := by
      have h1 := List.drop_eq_getElem_cons hic
      have h2 := List.drop_eq_getElem_cons hi
      rw [h1, h2] at hdr
      exact (List.cons.inj hdr).1
    have hdr' : c.drop (i + 1) = l.drop (i + 1) := by
      have h1 := List.drop_eq_getElem_cons hic
      have h2 := List.drop_eq_getElem_cons hi
      rw [h1, h2] at hdr
      exact (List.cons.inj hdr).2
    have him : i < (mvN b w l).length := by rw [mvN_length]; exact hi
    have hm : (mvN b w l)[i] = if w / 2 ^ i % 2 = 1 then l[i] + b else l[i] := by
      have h1 := mvN_drop b i w l
      rw [List.drop_eq_getElem_cons him, List.drop_eq_getElem_cons hi] at h1
      simp only [mvN] at h1
      exact (List.cons.inj h1).1
    obtain ⟨x0, x1⟩ := hr l[i] (List.getElem_mem hi)
    simp only [passes_moved.l0]
    rw [if_pos (by omega), if_pos (by omega), w64 (x := (i : Int) + 1) (by omega) (by omega), show ((i : Int) + 1) = ((i + 1 : Nat) : Int) by omega]
    have hbit := bit_eq w hw i (by omega)
    by_cases hx : w / 2 ^ i % 2 = 1
    · rw [if_pos (hbit.2 hx), if_pos (by omega), rd_nat c i hic, hci, w64 (by omega) (by omega), Int.toNat_natCast]
      refine ih (i + 1) k _ (by omega) (by omega) (by simpa using hc) ?_ ?_
      · rw [List.take_succ_eq_append_getElem (by simpa using hic), List.take_succ_eq_append_getElem him, hm, if_pos hx, List.getElem_set_self]
        rw [List.take_set_of_le (Nat.le_refl i), ht]
      · rw [List.drop_set_of_lt (by omega)]
        exact hdr'
    · rw [if_neg (fun h => hx (hbit.1 h))]
      refine ih (i + 1) k _ (by omega) (by omega) hc ?_ hdr'
      rw [List.take_succ_eq_append_getElem hic, List.take_succ_eq_append_getElem him, hm, if_neg hx, hci, ht]
theorem moved_f (p : Int × Int) (n : Nat) (hp : p ∈ allP n) (hn : n ≤ 5) (l : List Int) (hl : l.length ≤ 5) (hr : ∀ x ∈ l, 0 ≤ x ∧ x < 12) (k : Nat) (hk : 6 ≤ k) : passes_moved.f k l p.1 p.2 = some (mv p l) := by
  rw [mem_allP] at hp
  obtain ⟨b, w⟩ := p
  simp only at hp
  obtain ⟨h0, h1, h2, h3, h4⟩ := hp
  have h5 : ((2 ^ n : Nat) : Int) ≤ 32 := by
    rcases n with _ | _ | _ | _ | _ | _ | n
    all_goals first | decide | omega
  obtain ⟨w, rfl⟩ : ∃ m : Nat, w = m := ⟨w.toNat, by omega⟩
  have hc : slices_Clone_int_int.f l = some l := by unfold slices_Clone_int_int.f; rw [if_pos (by omega)]
  unfold passes_moved.f mv
  rw [hc, Option.bind_some]
  exact moved_l0 b w ⟨h1, h2⟩ (by omega) l hl hr l.length 0 k l (by omega) (by omega) rfl (by simp) (by simp)
end Go.Proofs.Ytehchpjjcohecaa.X
