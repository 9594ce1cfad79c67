import Derived.Test.YtehchpjjcohecaaM6
import Derived.Test.YtehchpjjcohecaaG0
import Derived.Test.YtehchpjjcohecaaC7a
import Derived.Test.YtehchpjjcohecaaM2
import Derived.Test.YtehchpjjcohecaaC14
/- YtehchpjjcohecaaM7 -/
section
/- The document's answer tells the same: Stands, Behind, power, Wrong, same, Same, Check. -/
namespace Go.Proofs.Ytehchpjjcohecaa.X
open Go.RowKit Go.Proofs.YtehchpjjcohecaaW.PrintWords Go.Proofs.YtehchpjjcohecaaW.PrintLast Go.Proofs.YtehchpjjcohecaaW.PrintMore
set_option linter.unusedVariables false
set_option linter.unusedSimpArgs false

theorem stands_l0 (tol s : List Int) (slack : Int) (hl : s.length = tol.length) (hm : s.length ≤ 4294967296) : ∀ (d i k : Nat), i + d = s.length → 2 * d < k → (∀ j, j < i → 0 ≤ s.getD j 0 ∧ s.getD j 0 < 12) →
    tapestryref13_Stands.l0 k s tol slack s (s.length : Int) (i : Int) = some (okL slack (prevAt tol s i) (tol.drop i) (s.drop i)) := by
  intro d
  induction d with
  | zero =>
    intro i k hd hk _
    obtain ⟨k, rfl⟩ : ∃ m, k = m + 1 := ⟨k - 1, by omega⟩
    simp only [tapestryref13_Stands.l0]
    rw [if_neg (by omega), List.drop_eq_nil_of_le (show s.length ≤ i by omega)]
    simp [okL]
  | succ d ih =>
    intro i k hd hk hp
    obtain ⟨k, rfl⟩ : ∃ m, k = m + 1 := ⟨k - 1, by omega⟩
    obtain ⟨k, rfl⟩ : ∃ m, k = m + 1 := ⟨k - 1, by omega⟩
    have hi : i < s.length := by omega
    have hi' : i < tol.length := by omega
    simp only [tapestryref13_Stands.l0]
    rw [if_pos (by omega), if_pos (by omega), if_pos (by omega), rd_nat s i hi, List.drop_eq_getElem_cons hi, List.drop_eq_getElem_cons hi']
    simp only [okL]
    by_cases hx0 : s[i] < 0
    · rw [if_pos hx0]
      simp only [tapestryref13_Stands.j1, if_true]
      rw [decide_eq_false (by omega)]
      simp
    rw [if_neg hx0]
    simp only [tapestryref13_Stands.j1]
    by_cases hx1 : s[i] > 11
    · rw [decide_eq_true hx1, if_pos rfl, decide_eq_false (show ¬ s[i] < 12 by omega)]
      simp
    rw [decide_eq_false hx1, if_neg (by simp), decide_eq_true (show 0 ≤ s[i] by omega), decide_eq_true (show s[i] < 12 by omega)]
    have hpn : ∀ j, j < i + 1 → 0 ≤ s.getD j 0 ∧ s.getD j 0 < 12 := by
      intro j hj
      by_cases e : j = i
      · subst e
        simp [List.getD_eq_getElem?_getD, hi]
        omega
      · exact hp j (by omega)
    have hnext : wrap64 ((i : Int) + 1) = ((i + 1 : Nat) : Int) := by rw [w64 (by omega) (by omega)]; omega
    have hrec := ih (i + 1) k (by omega) (by omega) hpn
    have hprev : prevAt tol s (i + 1) = some (s[i], tol[i]) := by simp [prevAt, List.getD_eq_getElem?_getD, hi, hi']
    rw [hprev] at hrec
    by_cases h0 : i = 0
    · subst h0
      rw [if_neg (by omega), hnext, hrec]
      simp [prevAt]
    · rw [if_pos (by omega)]
      have hw1 : wrap64 ((i : Int) - 1) = ((i - 1 : Nat) : Int) := by rw [w64 (by omega) (by omega)]; omega
      have hr1 : rd s ((i - 1 : Nat) : Int) = s.getD (i - 1) 0 := by simp [rd]
      have ht1 : rd tol ((i - 1 : Nat) : Int) = tol.getD (i - 1) 0 := by simp [rd]
      have ht0 : rd tol (i : Int) = tol[i] := rd_nat tol i hi'
      obtain ⟨q0, q1⟩ := hp (i - 1) (by omega)
      rw [hw1, hr1, ht1, ht0, hnext, hrec, if_pos (by omega), if_pos (by omega), w64 (by omega) (by omega)]
      simp only [prevAt, if_neg h0]
      generalize s.getD (i - 1) 0 = y at *
      generalize tol.getD (i - 1) 0 = u at *
      by_cases c1 : s[i] < y
      · rw [if_pos c1, decide_eq_false (show ¬ 0 ≤ s[i] - y by omega)]; simp
      rw [if_neg c1, decide_eq_true (show 0 ≤ s[i] - y by omega)]
      by_cases c2 : s[i] - y > slack
      · rw [if_pos c2, decide_eq_false (show ¬ s[i] - y ≤ slack by omega)]; simp
      rw [if_neg c2, decide_eq_true (show s[i] - y ≤ slack by omega)]
      by_cases c3 : s[i] = y
      · rw [if_pos c3, decide_eq_true (show s[i] - y = 0 by omega), if_pos (by omega), if_pos (by omega), if_pos (by omega)]
        by_cases c4 : tol[i] = u
        · rw [if_pos c4]; simp [c4]
        · rw [if_neg c4]; simp [c4]
      · rw [if_neg c3, decide_eq_false (show ¬ s[i] - y = 0 by omega)]; simp
theorem stands_f (tol s : List Int) (slack : Int) (hl : s.length = tol.length) (hm : s.length ≤ 4294967296) (k : Nat) (hk : 2 * s.length < k) : tapestryref13_Stands.f k s tol slack = some (okL slack none tol s) := by
  have := stands_l0 tol s slack hl hm s.length 0 k (by omega) hk (fun j hj => by omega)
  simpa [tapestryref13_Stands.f, prevAt] using this

theorem tmod2 (w : Nat) : Int.tmod (w : Int) 2 = ((w % 2 : Nat) : Int) := by rw [Int.tmod_eq_emod_of_nonneg (by omega)]; omega
theorem tdiv2 (w : Nat) (h : w ≤ 100) : wrap64 (Int.tdiv (w : Int) 2) = ((w / 2 : Nat) : Int) := by rw [Int.tdiv_eq_ediv_of_nonneg (by omega), w64 (by omega) (by omega)]; omega
theorem behind_l0 (b : Int) (hb : -2 ≤ b ∧ b ≤ 2) (l : List Int) (hl : l.length ≤ 5) (hr : ∀ x ∈ l, 0 ≤ x ∧ x < 12) : ∀ (d i k w : Nat) (c : List Int), i + d = l.length → d < k → w ≤ 100 → c.length = i →
    tapestryref13_Behind.l0 k b (w : Int) c l (l.length : Int) (i : Int) = some (c ++ mvN b w (l.drop i)) := by
  intro d
  induction d with
  | zero =>
    intro i k w c hd hk hw hc
    obtain ⟨k, rfl⟩ : ∃ m, k = m + 1 := ⟨k - 1, by omega⟩
    simp only [tapestryref13_Behind.l0]
    rw [if_neg (by omega), List.drop_eq_nil_of_le (show l.length ≤ i by omega)]
    simp [mvN]
  | succ d ih =>
    intro i k w c hd hk hw hc
    obtain ⟨k, rfl⟩ : ∃ m, k = m + 1 := ⟨k - 1, by omega⟩
    have hi : i < l.length := by omega
    obtain ⟨x0, x1⟩ := hr l[i] (List.getElem_mem hi)
    have hnext : wrap64 ((i : Int) + 1) = ((i + 1 : Nat) : Int) := by rw [w64 (by omega) (by omega)]; omega
    simp only [tapestryref13_Behind.l0]
    rw [if_pos (by omega), if_pos (by omega), if_pos (by omega), rd_nat l i hi, hnext, tdiv2 w hw, tmod2, List.drop_eq_getElem_cons hi, w64 (by omega) (by omega)]
    simp only [mvN]
    have hcl : c.length < 17592186044416 := by omega
    have hl1 : ∀ y : Int, (c ++ [y]).length = i + 1 := fun y => by simp [hc]
    by_cases h : w % 2 = 1
    · rw [if_pos (show ((w % 2 : Nat) : Int) = 1 by omega), if_pos hcl, ih (i + 1) k (w / 2) _ (by omega) (by omega) (by omega) (hl1 _), if_pos h, List.append_assoc]
      rfl
    · rw [if_neg (show ¬ ((w % 2 : Nat) : Int) = 1 by omega), if_pos hcl, ih (i + 1) k (w / 2) _ (by omega) (by omega) (by omega) (hl1 _), if_neg h, List.append_assoc]
      rfl
/-- By may be nothing, too. -/
theorem behind_f (b w : Int) (hb : -2 ≤ b ∧ b ≤ 2) (hw : 0 ≤ w ∧ w ≤ 100) (l : List Int) (hl : l.length ≤ 5) (hr : ∀ x ∈ l, 0 ≤ x ∧ x < 12) (k : Nat) (hk : 6 ≤ k) : tapestryref13_Behind.f k l b w = some (mv (b, w) l) := by
  obtain ⟨w, rfl⟩ : ∃ m : Nat, w = m := ⟨w.toNat, by omega⟩
  have := behind_l0 b hb l hl hr l.length 0 k w [] (by omega) (by omega) (by omega) rfl
  simpa [tapestryref13_Behind.f, mv] using this
theorem power_f (n k : Nat) (hn : n ≤ 5) (hk : 6 ≤ k) : tapestryref13_power.f k (n : Int) = some ((2 ^ n : Nat) : Int) := by
  obtain ⟨k, rfl⟩ : ∃ m, k = m + 6 := ⟨k - 6, by omega⟩
  unfold tapestryref13_power.f
  rcases n with _ | _ | _ | _ | _ | _ | n
  all_goals first | omega | (simp [tapestryref13_power.l0, wrap64])
theorem rtwins_l0 (src tol : List Int) (slack : Int) (hl : src.length = tol.length) (h1 : 1 ≤ src.length) (h5 : src.length ≤ 5) : ∀ (d i k : Nat), i + d = src.length → 1 ≤ i → d + 20 < k →
    tapestryref13_Wrong.l0 k src tol slack (i : Int) = some (if twins (src.drop (i - 1)) then 8 else if okL slack none tol src && okL slack none tol tol then 0 else 8) := by
  intro d
  induction d with
  | zero =>
    intro i k hd hi hk
    obtain ⟨k, rfl⟩ : ∃ m, k = m + 1 := ⟨k - 1, by omega⟩
    simp only [tapestryref13_Wrong.l0]
    have e1 : src.drop (i - 1) = [src[i - 1]] := by
      rw [List.drop_eq_getElem_cons (by omega), List.drop_eq_nil_of_le (by omega)]
    rw [if_neg (by omega), e1, stands_f tol src slack hl (by omega) k (by omega), stands_f tol tol slack rfl (by omega) k (by omega)]
    simp only [Option.bind_some, twins]
    cases okL slack none tol src <;> cases okL slack none tol tol <;> simp
  | succ d ih =>
    intro i k hd hi hk
    obtain ⟨k, rfl⟩ : ∃ m, k = m + 1 := ⟨k - 1, by omega⟩
    simp only [tapestryref13_Wrong.l0]
    have hw : wrap64 ((i : Int) - 1) = ((i - 1 : Nat) : Int) := by rw [w64 (by omega) (by omega)]; omega
    have hn : wrap64 ((i : Int) + 1) = ((i + 1 : Nat) : Int) := by rw [w64 (by omega) (by omega)]; omega
    rw [if_pos (by omega), if_pos (by omega), hw, if_pos (by omega), if_pos (by omega), rd_nat src i (by omega), rd_nat src (i - 1) (by omega), hn]
    have e1 : src.drop (i - 1) = src[i - 1] :: src[i] :: src.drop (i + 1) := by
      rw [List.drop_eq_getElem_cons (by omega)]
      congr 1
      rw [show i - 1 + 1 = i by omega, List.drop_eq_getElem_cons (by omega)]
    have e2 : src.drop (i + 1 - 1) = src[i] :: src.drop (i + 1) := by rw [show i + 1 - 1 = i by omega, List.drop_eq_getElem_cons (by omega)]
    rw [e1]
    simp only [twins]
    by_cases c : src[i] = src[i - 1]
    · rw [if_pos c]; simp [c]
    · rw [if_neg c, ih (i + 1) k (by omega) (by omega) (by omega), e2]
      simp [c]
theorem rwrong_f (src tol : List Int) (slack : Int) (k : Nat) (hk : 30 ≤ k) : tapestryref13_Wrong.f k src tol slack = some (wrongS src tol slack) := by
  obtain ⟨k, rfl⟩ : ∃ m, k = m + 1 := ⟨k - 1, by omega⟩
  obtain ⟨k, rfl⟩ : ∃ m, k = m + 1 := ⟨k - 1, by omega⟩
  unfold tapestryref13_Wrong.f wrongS
  by_cases c1 : (src.length : Int) < 1
  · rw [if_pos c1, if_pos (show src.length < 1 ∨ src.length > 5 ∨ src.length ≠ tol.length by omega)]
    simp only [tapestryref13_Wrong.j0, if_true]
  rw [if_neg c1]
  by_cases c2 : (src.length : Int) > 5
  · rw [if_pos c2, if_pos (show src.length < 1 ∨ src.length > 5 ∨ src.length ≠ tol.length by omega)]
    simp only [tapestryref13_Wrong.j0, if_true]
  rw [if_neg c2]
  simp only [tapestryref13_Wrong.j0]
  by_cases c3 : src.length = tol.length
  · rw [if_neg (show ¬ (((tol.length : Int) != (src.length : Int)) = true) by simp [c3]), if_neg (show ¬ (src.length < 1 ∨ src.length > 5 ∨ src.length ≠ tol.length) by omega)]
    by_cases c4 : slack < 1
    · rw [if_pos c4, if_pos (show slack < 1 ∨ slack ≥ 12 by omega)]
      simp only [tapestryref13_Wrong.j1, if_true]
    rw [if_neg c4]
    simp only [tapestryref13_Wrong.j1]
    by_cases c5 : slack > 11
    · rw [decide_eq_true c5, if_pos (show slack < 1 ∨ slack ≥ 12 by omega)]
      simp only [if_true]
    rw [decide_eq_false c5, if_neg (show ¬ (false = true) by simp), if_neg (show ¬ (slack < 1 ∨ slack ≥ 12) by omega)]
    have h := rtwins_l0 src tol slack c3 (by omega) (by omega) (src.length - 1) 1 k (by omega) (by omega) (by omega)
    simpa using h
  · rw [if_pos (show ((tol.length : Int) != (src.length : Int)) = true by simp; omega), if_pos (show src.length < 1 ∨ src.length > 5 ∨ src.length ≠ tol.length by omega)]
theorem rsame_l0 (a b : List Int) (hl : a.length = b.length) (hm : a.length ≤ 4294967296) : ∀ (d i k : Nat), i + d = a.length → d < k → tapestryref13_same.l0 k a b (a.length : Int) (i : Int) = some (decide (a.drop i = b.drop i))
  | 0, i, 0, _, h => by omega
  | 0, i, k + 1, hd, _ => by
    simp only [tapestryref13_same.l0]
    rw [if_neg (by omega), List.drop_eq_nil_of_le (show a.length ≤ i by omega), List.drop_eq_nil_of_le (show b.length ≤ i by omega)]
    simp
  | d + 1, i, 0, _, h => by omega
  | d + 1, i, k + 1, hd, hk => by
    have hi : i < a.length := by omega
    have hi' : i < b.length := by omega
    simp only [tapestryref13_same.l0]
    rw [if_pos (by omega), if_pos (by omega), if_pos (by omega), if_pos (by omega), rd_nat a i hi, rd_nat b i hi', List.drop_eq_getElem_cons hi, List.drop_eq_getElem_cons hi']
    have hnext : wrap64 ((i : Int) + 1) = ((i + 1 : Nat) : Int) := by rw [w64 (by omega) (by omega)]; omega
    by_cases h : a[i] = b[i]
    · rw [if_pos h, hnext, rsame_l0 a b hl hm d (i + 1) k (by omega) (by omega)]
      congr 1
      exact decide_eq_decide.2 (by rw [List.cons_eq_cons]; exact ⟨fun e => ⟨h, e⟩, fun e => e.2⟩)
    · rw [if_neg h]
      congr 1
      exact (decide_eq_false (by rw [List.cons_eq_cons]; exact fun e => h e.1)).symm
theorem rsame_f (a b : List Int) (hm : a.length ≤ 4294967296) (k : Nat) (hk : a.length < k) : tapestryref13_same.f k a b = some (decide (a = b)) := by
  unfold tapestryref13_same.f
  by_cases h : a.length = b.length
  · rw [if_pos (by omega)]
    have := rsame_l0 a b h hm a.length 0 k (by omega) hk
    simpa using this
  · rw [if_neg (by omega)]
    have : a ≠ b := fun e => h (by rw [e])
    simp [this]
theorem rSame_l0 (a : List S43) (hm : a.length ≤ 4294967296) : ∀ (d i k : Nat), i + d = a.length → d < k → tapestryref13_Same.l0 k a a (a.length : Int) (i : Int) = some true
  | 0, i, 0, _, h => by omega
  | 0, i, k + 1, hd, _ => by
    simp only [tapestryref13_Same.l0]
    rw [if_neg (by omega)]
  | d + 1, i, 0, _, h => by omega
  | d + 1, i, k + 1, hd, hk => by
    have hnext : wrap64 ((i : Int) + 1) = ((i + 1 : Nat) : Int) := by rw [w64 (by omega) (by omega)]; omega
    simp only [tapestryref13_Same.l0]
    rw [if_pos (by omega), if_pos (by omega), if_pos (by omega), if_pos (by omega), hnext, rSame_l0 a hm d (i + 1) k (by omega) (by omega)]
    simp
theorem rSame_f (a : List S43) (hm : a.length ≤ 4294967296) (k : Nat) (hk : a.length < k) : tapestryref13_Same.f k a a = some true := by
  unfold tapestryref13_Same.f
  rw [if_pos rfl]
  exact rSame_l0 a hm a.length 0 k (by omega) hk
theorem rcheck_l0 (src tol : List Int) (slack : Int) (l : List S43) (hl : src.length = tol.length) (h5 : tol.length ≤ 5) (hm : l.length ≤ 9223372036854775807) : ∀ (d i k : Nat) (s : List Int), i + d = l.length → 2 * d + 100 < k → Ok tol slack s →
    tapestryref13_Check.l0 k src tol slack s l (l.length : Int) (i : Int) = some (checkS tol slack (l.drop i) s, 0)
  | 0, i, 0, s, _, h, _ => by omega
  | 0, i, k + 1, s, hd, hk, ho => by
    simp only [tapestryref13_Check.l0]
    rw [if_neg (by omega), List.drop_eq_nil_of_le (show l.length ≤ i by omega), rsame_f s tol (by have := ho.1; omega) k (by have := ho.1; omega)]
    simp [checkS]
  | d + 1, i, 0, s, _, h, _ => by omega
  | d + 1, i, 1, s, _, h, _ => by omega
  | d + 1, i, k + 2, s, hd, hk, ho => by
    have hi : i < l.length := by omega
    simp only [tapestryref13_Check.l0, tapestryref13_Check.j1]
    rw [if_pos (by omega), if_pos (by omega), if_pos (by omega), rd_T43_nat l i hi, List.drop_eq_getElem_cons hi, hl, power_f _ (k + 1) h5 (by omega)]
    generalize l[i] = x
    simp only [checkS, Option.bind_some]
    have hnext : wrap64 ((i : Int) + 1) = ((i + 1 : Nat) : Int) := by rw [w64 (by omega) (by omega)]; omega
    have bad : ∀ h : ¬ ((x.f0, x.f1) ∈ allP tol.length), passB tol.length x = false := fun h => by simp [passB, h]
    rw [mem_allP] at bad
    simp only at bad
    by_cases c1 : x.f0 < -2
    · rw [if_pos c1, if_pos trivial, bad (by omega)]; rfl
    rw [if_neg c1]
    by_cases c2 : x.f0 > 2
    · rw [if_pos c2, if_pos trivial, bad (by omega)]; rfl
    rw [if_neg c2]
    by_cases c0 : x.f0 = 0
    · rw [if_pos c0, if_pos trivial, bad (by omega)]; rfl
    rw [if_neg c0]
    by_cases c3 : x.f1 < 1
    · rw [if_pos c3, if_pos trivial, bad (by omega)]; rfl
    rw [if_neg c3]
    by_cases c4 : x.f1 ≥ ((2 ^ tol.length : Nat) : Int)
    · rw [decide_eq_true c4, if_pos rfl, bad (by omega)]; rfl
    rw [decide_eq_false c4, if_neg (by simp)]
    have hx : (x.f0, x.f1) ∈ allP tol.length := by rw [mem_allP]; simp only; omega
    have hs5 : s.length ≤ 5 := by have := ho.1; omega
    have hp32 : ((2 ^ tol.length : Nat) : Int) ≤ 32 := by
      generalize tol.length = n at h5
      rcases n with _ | _ | _ | _ | _ | _ | n
      all_goals first | decide | omega
    rw [behind_f x.f0 x.f1 (by omega) (by omega) s hs5 ho.range k (by omega)]
    simp only [Option.bind_some]
    have hml : (mv (x.f0, x.f1) s).length = tol.length := by rw [mv_length]; exact ho.1
    rw [stands_f tol _ slack hml (by omega) k (by omega)]
    simp only [Option.bind_some]
    have hp : passB tol.length x = true := by simp [passB, hx]
    rw [hp]
    by_cases c5 : okL slack none tol (mv (x.f0, x.f1) s) = true
    · rw [if_pos c5, hnext, rcheck_l0 src tol slack l hl h5 hm d (i + 1) k _ (by omega) (by omega) ⟨hml, c5⟩, c5]
      simp
    · rw [if_neg c5]
      simp [c5]
theorem rcheck_f (src tol : List Int) (slack : Int) (l : List S43) (hm : l.length ≤ 9223372036854775807) (k : Nat) (hk : 2 * l.length + 100 < k) : tapestryref13_Check.f k src tol slack l = some (checkR src tol slack l) := by
  unfold tapestryref13_Check.f checkR
  rw [rwrong_f src tol slack k (by omega)]
  simp only [Option.bind_some]
  by_cases h : wrongS src tol slack = 0
  · rw [if_pos h, if_pos h]
    obtain ⟨h1, h5, hl, _, _, ho, _⟩ := wrong_ok h
    have := rcheck_l0 src tol slack l hl (by omega) hm l.length 0 k src (by omega) hk ho
    simpa using this
  · rw [if_neg h, if_neg h]
end Go.Proofs.Ytehchpjjcohecaa.X
end
/- YtehchpjjcohecaaC21 -/
section
/- tapestryref13.name: the name of a way to stand. -/
namespace Go.Proofs.Ytehchpjjcohecaa.X
open Go.RowKit Go.Proofs.YtehchpjjcohecaaW.PrintWords Go.Proofs.YtehchpjjcohecaaW.PrintLast Go.Proofs.YtehchpjjcohecaaW.PrintMore
set_option linter.unusedVariables false
set_option linter.unusedSimpArgs false
def nameS (l : List Int) : ByteArray := ⟨(l.map fun x => UInt8.ofNat (97 + x).toNat).toArray⟩
theorem enc_name (y : Int) (h0 : 0 ≤ y) (h1 : y < 12) : Utf8.encode (97 + y) = nameS [y] := by
  obtain ⟨n, rfl⟩ : ∃ n : Nat, y = n := ⟨y.toNat, by omega⟩
  have hn : n < 12 := by omega
  clear h0 h1
  rcases n with _ | _ | _ | _ | _ | _ | _ | _ | _ | _ | _ | _ | n
  all_goals first | decide +kernel | omega
theorem nameS_append (a b : List Int) : nameS (a ++ b) = nameS a ++ nameS b := by
  apply ByteArray.ext
  simp [nameS]
theorem nameS_size (a : List Int) : (nameS a).size = a.length := by simp [nameS, ByteArray.size]
set_option maxRecDepth 100000 in
set_option maxHeartbeats 4000000 in
theorem name_calls (A0 : Option Addr) (c0 : Nat) (l0 : List Int) (w : World) (hr0 : Kd.C (Kd.int .i64) w A0 l0.length l0) (hc0 : l0.length ≤ c0) (h5 : l0.length ≤ 100) (hx : ∀ x ∈ l0, 0 ≤ x ∧ x < 12) :
    Calls Try.prog 21 #[.slice A0 l0.length c0] w fun e w' => e = .returned (.string (nameS l0)) ∧ Drawn0 w w' := by
  have HR0 := Aside0.mk hr0
  have HC0 := Aside0.mk hc0
  have HX := Aside0.mk hx
  clear hr0 hc0 hx
  go_enter Try.func21, Try.ntmps21
  go_wp2
  go_loopg [3, 8] (l0.length + 1) (fun kq v3 v8 w' => ∃ i : Nat, i ≤ l0.length ∧ v3 = .string (nameS (l0.take i)) ∧ v8 = .int .i64 i ∧ Aside0 (kq + i = l0.length + 1) ∧ Drawn0 w w')
  case atStart => exact ⟨0, by omega, rfl, rfl, ⟨by omega⟩, Drawn0.refl _⟩
  case round =>
    obtain ⟨i, hi, rfl, rfl, HK, ⟨m1, rfl⟩⟩ := hrel
    cases gk with
    | zero => exact absurd HK.out (by omega)
    | succ k1 =>
      by_cases c : i < l0.length
      · have cb : decide ((i : Int) < (l0.length : Int)) = true := decide_eq_true (by omega)
        have p182 : 0 ≤ (i : Int) := by omega
        have q182 : (i : Int) < (l0.length : Int) := by omega
        obtain ⟨ad182, e182, hx182_0⟩ := Kd.at_int HR0.out (i : Int) p182 q182
        cases e182
        replace p182 := eq_true p182
        replace q182 := eq_true q182
        rw [Int.toNat_natCast, rd_nat l0 i c] at hx182_0
        obtain ⟨y0, y1⟩ := HX.out l0[i] (List.getElem_mem c)
        obtain ⟨y, hy⟩ : ∃ y, l0[i] = y := ⟨_, rfl⟩
        rw [hy] at hx182_0 y0 y1
        have HY := Go.Lib.hid hy
        clear hy
        have HE := Go.Lib.hid (enc_name y y0 y1)
        go_wp2
        · exfalso
          rename_i hbig
          rw [HE.out, nameS_size, nameS_size, List.length_take] at hbig
          simp at hbig
          omega
        · go_roundg k1
          case measure => omega
          case rel =>
            refine ⟨i + 1, by omega, ?_, ?_, ⟨by have := HK.out; omega⟩, by repeat (first | exact Drawn0.refl _ | apply Drawn0.step)⟩
            · rw [HE.out, ← nameS_append, List.take_succ_eq_append_getElem c, HY.out]
            · congr 1
      · have cb : decide ((i : Int) < (l0.length : Int)) = false := decide_eq_false (by omega)
        go_wp2
        go_ret
        rw [List.take_of_length_le (by omega)]
        exact ⟨rfl, by repeat (first | exact Drawn0.refl _ | apply Drawn0.step)⟩
end Go.Proofs.Ytehchpjjcohecaa.X
end
/- YtehchpjjcohecaaM8 -/
section
/- The first good pass, found in order. -/
namespace Go.Proofs.Ytehchpjjcohecaa.X
open Go.RowKit Go.Proofs.YtehchpjjcohecaaW.PrintWords
set_option linter.unusedVariables false
set_option linter.unusedSimpArgs false
def lexP (a b : Int × Int) : Prop := a.1 < b.1 ∨ (a.1 = b.1 ∧ a.2 < b.2)
theorem allP_sorted (n : Nat) : (allP n).Pairwise lexP := by
  unfold allP uptoP rowP
  rw [List.pairwise_flatMap]
  refine ⟨fun i hi => ?_, ?_⟩
  · split
    · exact List.Pairwise.nil
    · rw [List.pairwise_map]
      exact List.pairwise_lt_range.imp (fun h => .inr ⟨rfl, by simp only; omega⟩)
  · refine List.pairwise_lt_range.imp (fun {i j} h => ?_)
    intro x hx y hy
    split at hx
    · cases hx
    split at hy
    · cases hy
    obtain ⟨a, _, rfl⟩ := List.mem_map.1 hx
    obtain ⟨b, _, rfl⟩ := List.mem_map.1 hy
    left
    simp only
    omega
theorem find_lex {n : Nat} {q : Int × Int → Bool} {x : Int × Int} (hx : x ∈ allP n) (hq : q x = true) (hb : ∀ p ∈ allP n, lexP p x → q p = false) : (allP n).find? q = some x := by
  have hf : ((allP n).find? q).isSome := List.find?_isSome.2 ⟨x, hx, hq⟩
  obtain ⟨y, hy⟩ := Option.isSome_iff_exists.1 hf
  obtain ⟨hqy, l1, l2, e, has⟩ := List.find?_eq_some_iff_append.1 hy
  rw [hy]
  congr 1
  have hs := allP_sorted n
  rw [e] at hs hx
  rw [List.pairwise_append] at hs
  have hyx : lexP y x ∨ x = y := by
    rcases List.mem_append.1 hx with h | h
    · have := has x h
      rw [hq] at this
      cases this
    · rcases List.mem_cons.1 h with h | h
      · exact .inr h
      · exact .inl (List.rel_of_pairwise_cons hs.2.1 h)
  rcases hyx with h | h
  · have := hb y (by rw [e]; simp) h
    rw [hqy] at this
    cases this
  · exact h.symm
def keyN (s : List Int) : Lit := .string (nameS s).data.toList
theorem nameS_inj {a b : List Int} (ha : ∀ x ∈ a, 0 ≤ x ∧ x < 12) (hb : ∀ x ∈ b, 0 ≤ x ∧ x < 12) (h : nameS a = nameS b) : a = b := by
  have e : a.map (fun x => UInt8.ofNat (97 + x).toNat) = b.map (fun x => UInt8.ofNat (97 + x).toNat) := by
    have := congrArg (fun b => b.data.toList) h
    simpa [nameS] using this
  clear h
  induction a generalizing b with
  | nil => cases b with
    | nil => rfl
    | cons y ys => simp at e
  | cons x xs ih => cases b with
    | nil => simp at e
    | cons y ys =>
      simp only [List.map_cons, List.cons.injEq] at e
      obtain ⟨x0, x1⟩ := ha x List.mem_cons_self
      obtain ⟨y0, y1⟩ := hb y List.mem_cons_self
      have h1 := congrArg UInt8.toNat e.1
      simp at h1
      have : x = y := by omega
      rw [this, ih (fun z hz => ha z (List.mem_cons_of_mem _ hz)) (fun z hz => hb z (List.mem_cons_of_mem _ hz)) e.2]
theorem keyN_inj {a b : List Int} (ha : ∀ x ∈ a, 0 ≤ x ∧ x < 12) (hb : ∀ x ∈ b, 0 ≤ x ∧ x < 12) (h : keyN a = keyN b) : a = b := by
  refine nameS_inj ha hb (ByteArray.ext (Array.toList_inj.1 ?_))
  simpa [keyN] using h
end Go.Proofs.Ytehchpjjcohecaa.X
end
/- YtehchpjjcohecaaC22 -/
section
/- tapestryref13.first -/
namespace Go.Proofs.Ytehchpjjcohecaa.X
open Go.RowKit Go.Shelf Go.Maps Go.WideMaps Go.WideElems Go.Proofs.YtehchpjjcohecaaW.PrintWords Go.Proofs.YtehchpjjcohecaaW.PrintLast Go.Proofs.YtehchpjjcohecaaW.PrintMore
set_option linter.unusedVariables false
set_option linter.unusedSimpArgs false
attribute [local go_sem] Oper.semAt_some
def byOf (i : Nat) : Int := if i = 0 then -2 else if i = 1 then -1 else if i = 2 then 1 else if i = 3 then 2 else 3
def FirstW (w W : World) : Prop := Below w.heap.size w W ∧ W.heap[w.heap.size]? = some (.cells #[.int .i64 0, .int .i64 0] 43 (0, 0)) ∧ W.heap[w.heap.size + 1]? = some (.cells #[.int .i64 (-2), .int .i64 (-1), .int .i64 1, .int .i64 2] 3 (0, 0))
theorem FirstW.below {w W W1 : World} (h : FirstW w W) (hb : Below W.heap.size W W1) : FirstW w W1 :=
  ⟨h.1.trans (hb.mono h.1.size), (hb.block _ (heap_lt h.2.1)).trans h.2.1, (hb.block _ (heap_lt h.2.2)).trans h.2.2⟩
def firstFrame (A0 : Option Addr) (c0 : Nat) (s : List Int) (A1 : Option Addr) (c1 : Nat) (tol : List Int) (slack : Int) (M m B i : Nat) (u12 u13 u14 u15 u16 u20 u21 u22 u23 u24 u25 u26 u27 u28 u29 u30 u31 u32 u33 u34 u35 u36 u37 u38 u39 u40 u41 u42 u43 u44 u45 u46 u47 u48 u49 u50 u51 u52 u53 u54 u55 : Value) : Array Value :=
  #[.slice A0 s.length c0, .slice A1 tol.length c1, .int .i64 slack, .map (some M), .int .i64 m, undef, undef, undef, undef, undef, .pointer (some ⟨B, 0, none⟩), undef, u12, u13, u14, u15, u16, .slice (some ⟨B + 1, 0, none⟩) 4 4, .int .i64 4, .int .i64 i, u20, u21, u22, u23, u24, u25, u26, u27, u28, u29, u30, u31, u32, u33, u34, u35, u36, u37, u38, u39, u40, u41, u42, u43, u44, u45, u46, u47, u48, u49, u50, u51, u52, u53, u54, u55, undef]
def FirstI (A0 : Option Addr) (c0 : Nat) (s : List Int) (A1 : Option Addr) (c1 : Nat) (tol : List Int) (slack : Int) (M m : Nat) (w : World) (k : Nat) (a : Act) (W : World) : Prop :=
  ∃ (i : Nat) (u12 u13 u14 u15 u16 u20 u21 u22 u23 u24 u25 u26 u27 u28 u29 u30 u31 u32 u33 u34 u35 u36 u37 u38 u39 u40 u41 u42 u43 u44 u45 u46 u47 u48 u49 u50 u51 u52 u53 u54 u55 : Value), a = { tmps := firstFrame A0 c0 s A1 c1 tol slack M m w.heap.size i u12 u13 u14 u15 u16 u20 u21 u22 u23 u24 u25 u26 u27 u28 u29 u30 u31 u32 u33 u34 u35 u36 u37 u38 u39 u40 u41 u42 u43 u44 u45 u46 u47 u48 u49 u50 u51 u52 u53 u54 u55, defers := [] } ∧ i + k = 4 ∧ FirstW w W ∧ ∀ p ∈ allP tol.length, p.1 < byOf i → good tol slack m s p = false
def FirstJ (A0 : Option Addr) (c0 : Nat) (s : List Int) (A1 : Option Addr) (c1 : Nat) (tol : List Int) (slack : Int) (M m : Nat) (w : World) (i : Nat) (k : Nat) (a : Act) (W : World) : Prop :=
  ∃ (j : Nat) (u14 u15 u16 u20 u21 u22 u23 u24 u25 u26 u27 u28 u29 u30 u31 u32 u33 u34 u35 u36 u37 u38 u39 u40 u41 u42 u43 u44 u45 u46 u47 u48 u49 u50 u51 u52 u53 u54 u55 : Value), a = { tmps := firstFrame A0 c0 s A1 c1 tol slack M m w.heap.size i (.int .i64 (byOf i)) (.int .i64 j) u14 u15 u16 u20 u21 u22 u23 u24 u25 u26 u27 u28 u29 u30 u31 u32 u33 u34 u35 u36 u37 u38 u39 u40 u41 u42 u43 u44 u45 u46 u47 u48 u49 u50 u51 u52 u53 u54 u55, defers := [] } ∧ j + k = 2 ^ tol.length ∧ 1 ≤ j ∧ FirstW w W ∧ ∀ p ∈ allP tol.length, lexP p (byOf i, (j : Int)) → good tol slack m s p = false
theorem look_name {w0 W : World} {M cnt : Nat} {f : Lit → Option Int} {nxt : List Int} {o : Option Int} (hM : MapL Try.prog 9 3 w0 M cnt f) (hs : W.heap[M]? = w0.heap[M]?) (hn : nxt.length ≤ 5) (ho : f (keyN nxt) = o) :
    (Instr.lookup 46 (.map (some M)) (.string (nameS nxt)) true).run Try.prog W = .ok (.tuple #[.int .i64 (o.getD 0), .bool o.isSome]) W := by
  have hk : keyOf Try.prog 9 (.string (nameS nxt)) = some (keyN nxt) := keyOf_string_mk Try.underlying9 (by rw [nameS_size, show maxLen = 9223372036854775807 by decide]; omega)
  have h := (hM.same hs).look (string_keyed Try.underlying9) Try.underlying46 Try.underlying3 (Try.zeroValue3 _) hk trivial
  rw [ho] at h
  exact h
set_option maxRecDepth 100000 in
set_option maxHeartbeats 8000000 in
theorem first_in (A0 : Option Addr) (c0 : Nat) (s : List Int) (A1 : Option Addr) (c1 : Nat) (tol : List Int) (slack : Int) (M cnt m : Nat) (f : Lit → Option Int) (w : World) (hr0 : Kd.C (Kd.int .i64) w A0 s.length s) (hc0 : s.length ≤ c0) (hr1 : Kd.C (Kd.int .i64) w A1 tol.length tol) (hc1 : tol.length ≤ c1)
    (hM : MapL Try.prog 9 3 w M cnt f) (hf : ∀ u, Ok tol slack u → f (keyN u) = (dist tol slack u).map Int.ofNat) (hos : Ok tol slack s) (ht5 : tol.length ≤ 5) (x : Int × Int) (hx : (allP tol.length).find? (good tol slack m s) = some x) :
    CallsIn Fence.wide 11 Try.prog 22 #[.slice A0 s.length c0, .slice A1 tol.length c1, .int .i64 slack, .map (some M), .int .i64 m] w (fun e w' => e = .returned (.agg #[.int .i64 x.1, .int .i64 x.2]) ∧ Below w.heap.size w w') := by
  have HR0 := Aside0.mk hr0
  have HC0 := Aside0.mk hc0
  have HR1 := Aside0.mk hr1
  have HC1 := Aside0.mk hc1
  have HM := Aside0.mk hM
  have HF := Aside0.mk hf
  have HX := Aside0.mk hx
  clear hr0 hc0 hr1 hc1 hM hf hx
  have hmx : Try.prog.follows .mixedOrders = true := by kernel_rfl
  refine callsIn_of_wp_marks Try.func22 rfl trivial ?_ rfl
  simp only [Try.ntmps22, List.size_toArray, List.length_cons, List.length_nil, Nat.reduceAdd, Nat.reduceSub, Array.replicate_succ, Array.replicate_zero, List.push_toArray, List.append_toArray, List.nil_append, List.cons_append]
  gi_wp2
  refine wpIn_loop_ghost (FirstI A0 c0 s A1 c1 tol slack M m w) 4 ?start ?round
  case start =>
    refine ⟨0, undef, undef, undef, undef, undef, undef, undef, undef, undef, undef, undef, undef, undef, undef, undef, undef, undef, undef, undef, undef, undef, undef, undef, undef, undef, undef, undef, undef, undef, undef, undef, undef, undef, undef, undef, undef, undef, undef, undef, undef, undef, rfl, rfl, ⟨?_, ?_, ?_⟩, ?_⟩
    · exact ((Below.refl _ _).alloc (Nat.le_refl _) _).alloc (by simp) _
    · exact (Below.heap_alloc _ _ _ (by simp)).trans (World.alloc_heap_new w _)
    · have h := World.alloc_heap_new (w.alloc (.cells #[.int .i64 0, .int .i64 0] 43)) (.cells #[.int .i64 (-2), .int .i64 (-1), .int .i64 1, .int .i64 2] 3)
      rw [World.size_alloc] at h
      exact h
    · intro p hp h
      have := ((mem_allP _ _).1 hp).2.1
      simp [byOf] at h
      omega
  case round =>
    rintro k a W ⟨i, u12, u13, u14, u15, u16, u20, u21, u22, u23, u24, u25, u26, u27, u28, u29, u30, u31, u32, u33, u34, u35, u36, u37, u38, u39, u40, u41, u42, u43, u44, u45, u46, u47, u48, u49, u50, u51, u52, u53, u54, u55, rfl, hik, hW, hpre⟩
    unfold firstFrame
    cases k with
    | zero =>
      exfalso
      have hmem := List.mem_of_find?_eq_some HX.out
      have hq := List.find?_some HX.out
      have h2 := ((mem_allP _ _).1 hmem).2.2.1
      have := hpre x hmem (by rw [show i = 4 by omega]; simp [byOf]; omega)
      rw [hq] at this
      cases this
    | succ k =>
      have hi4 : i < 4 := by omega
      have hby : W.cell? ⟨w.heap.size + 1, i, none⟩ = some (.int .i64 (byOf i)) := by
        refine (blk_cell hW.2.2 i).trans ?_
        rcases i with _ | _ | _ | _ | i
        all_goals first | rfl | omega
      have hci : decide ((i : Int) < 4) = true := decide_eq_true (by omega)
      have hi0 : (0 : Int) ≤ (i : Int) := by omega
      have hi1 : ((i : Int) < 4) := by omega
      replace hi0 := eq_true hi0
      replace hi1 := eq_true hi1
      have HPRE := Aside0.mk hpre
      have HW := Aside0.mk hW
      clear hpre hW
      gi_wp2
      have hN : (1 : Nat) ≤ 2 ^ tol.length := Nat.one_le_two_pow
      refine wpIn_loop_ghost (FirstJ A0 c0 s A1 c1 tol slack M m w i) (2 ^ tol.length - 1) ?start ?round
      case start =>
        refine ⟨1, _, _, _, _, _, _, _, _, _, _, _, _, _, _, _, _, _, _, _, _, _, _, _, _, _, _, _, _, _, _, _, _, _, _, _, _, _, _, _, rfl, by omega, Nat.le_refl _, HW.out, ?_⟩
        intro p hp h
        rcases h with h | ⟨_, h⟩
        · exact HPRE.out p hp h
        · have := ((mem_allP _ _).1 hp).2.2.2.1
          simp only at h
          omega
      case round =>
        clear hby HPRE HW
        rintro kk a W ⟨j, u14, u15, u16, u20, u21, u22, u23, u24, u25, u26, u27, u28, u29, u30, u31, u32, u33, u34, u35, u36, u37, u38, u39, u40, u41, u42, u43, u44, u45, u46, u47, u48, u49, u50, u51, u52, u53, u54, u55, rfl, hjk, hj1, hW, hpre⟩
        have HPRE := Aside0.mk hpre
        have HW := Aside0.mk hW
        clear hpre hW
        have H25 := Aside0.mk (power_f tol.length 100 ht5 (by omega))
        have hN32 : 2 ^ tol.length ≤ 32 := by
          have h5 := ht5
          generalize tol.length = n at h5
          rcases n with _ | _ | _ | _ | _ | _ | n
          all_goals first | decide | omega
        have hmem : ∀ p : Int × Int, p ∈ allP tol.length ↔ (p.1 ≠ 0 ∧ -2 ≤ p.1 ∧ p.1 ≤ 2 ∧ 1 ≤ p.2 ∧ p.2 < ((2 ^ tol.length : Nat) : Int)) := mem_allP tol.length
        have HMEM := Aside0.mk hmem
        clear hmem
        generalize hNN : 2 ^ tol.length = N at *
        have HNN := Go.Lib.hid hNN
        clear hNN
        unfold firstFrame
        cases kk with
        | zero =>
          have hcj : decide ((j : Int) < (N : Int)) = false := decide_eq_false (by omega)
          gi_wp2_with (refine ⟨trivial, ?_⟩; gi_at_call 25; refine (callsIn_wide.2 (tapestryref13_power.calls 100 _ _ _ H25.out)).mono ?_; rintro e w1 ⟨rfl, ⟨⟨n1, rfl⟩⟩⟩)
          refine ⟨k, by omega, i + 1, _, _, _, _, _, _, _, _, _, _, _, _, _, _, _, _, _, _, _, _, _, _, _, _, _, _, _, _, _, _, _, _, _, _, _, _, _, _, _, _, _, rfl, by omega, HW.out.below (pw_below_drewN (Below.refl _ _) _), ?_⟩
          intro p hp hlt
          refine HPRE.out p hp ?_
          obtain ⟨q0, q1, q2, q3, q4⟩ := (HMEM.out p).1 hp
          unfold lexP
          simp only
          by_cases hpi : p.1 < byOf i
          · exact .inl hpi
          · right
            have : p.1 = byOf i := by
              clear hcj
              unfold byOf at hlt hpi ⊢
              rcases i with _ | _ | _ | _ | i
              all_goals simp at hlt hpi ⊢
              all_goals omega
            exact ⟨this, by omega⟩
        | succ kk =>
          have hcj : decide ((j : Int) < (N : Int)) = true := decide_eq_true (by omega)
          have hb : -2 ≤ byOf i ∧ byOf i ≤ 2 ∧ byOf i ≠ 0 := by
            clear hcj
            unfold byOf
            rcases i with _ | _ | _ | _ | i
            all_goals first | decide | omega
          have hq : ((byOf i, (j : Int)) : Int × Int) ∈ allP tol.length := (HMEM.out _).2 ⟨hb.2.2, hb.1, hb.2.1, by simp only; omega, by simp only; omega⟩
          have hs5 : s.length ≤ 5 := by have := hos.1; omega
          have H23 := Aside0.mk (behind_f (byOf i) (j : Int) ⟨hb.1, hb.2.1⟩ (by omega) s hs5 hos.range 100 (by omega))
          obtain ⟨nxt, hnxt⟩ : ∃ nxt, mv (byOf i, (j : Int)) s = nxt := ⟨_, rfl⟩
          have hnl : nxt.length = tol.length := by rw [← hnxt, mv_length]; exact hos.1
          have H19 := Aside0.mk (stands_f tol nxt slack hnl (by omega) 100 (by omega))
          rw [hnxt] at H23
          have HNX := Go.Lib.hid hnxt
          have HNL := Go.Lib.hid hnl
          have hnl5 : nxt.length ≤ 5 := by omega
          have HHQ := Aside0.mk hq
          have HHB := Aside0.mk hb
          clear hnxt hnl hq hb
          obtain ⟨by0, hby0⟩ : ∃ z, byOf i = z := ⟨_, rfl⟩
          rw [hby0] at H23 ⊢
          have HBY := Go.Lib.hid hby0
          clear hby0
          have FIN : Aside0 (good tol slack m s (byOf i, (j : Int)) = false → ∀ p ∈ allP tol.length, lexP p (byOf i, ((j + 1 : Nat) : Int)) → good tol slack m s p = false) := ⟨by
            intro hg p hp hl
            by_cases h2 : lexP p (byOf i, (j : Int))
            · exact HPRE.out p hp h2
            · have : p = (byOf i, (j : Int)) := by
                unfold lexP at hl h2
                simp only at hl h2
                exact Prod.ext (by simp only; omega) (by simp only; omega)
              rw [this]
              exact hg⟩
          by_cases hok : okL slack none tol nxt = true
          · rw [hok] at H19
            have hon : Ok tol slack nxt := ⟨HNL.out, hok⟩
            have hfd := HF.out nxt hon
            have HRG := Aside0.mk hon.range
            have HON := Aside0.mk hon
            clear hok hon
            cases hdd : dist tol slack nxt with
            | none =>
              rw [hdd] at hfd
              have HDD := Go.Lib.hid hdd
              clear hdd
              gi_wp2_with (first
              | (refine ⟨trivial, ?_⟩; gi_at_call 25; refine (callsIn_wide.2 (tapestryref13_power.calls 100 _ _ _ H25.out)).mono ?_; rintro e w1 ⟨rfl, ⟨⟨n1, rfl⟩⟩⟩)
              | (refine ⟨trivial, ?_⟩; gi_at_call 23; refine (callsIn_wide.2 (tapestryref13_Behind.calls 100 A0 c0 s _ _ nxt _ (C_blocks HR0.out (HW.out.below (pw_below_drewN (Below.refl _ _) _)).1.block) HC0.out H23.out)).mono ?_; rintro e w2 ⟨v14, rfl, hR14, hB14⟩; obtain ⟨A7, c7, rfl, hl7, hC7⟩ := Kd.R_reads hR14; have HC7 := Aside0.mk hC7; have HL7 := Aside0.mk hl7; have hW2 := (HW.out.below (pw_below_drewN (Below.refl _ _) _)).below hB14; have hcb0 : w2.cell? ⟨w.heap.size, 0, none⟩ = some (.int .i64 0) := blk_cell hW2.2.1 0; have hcb1 : w2.cell? ⟨w.heap.size, 1, none⟩ = some (.int .i64 0) := blk_cell hW2.2.1 1; have hfz : w2.frozen? ⟨w.heap.size, 0, none⟩ = false := (by simp [World.frozen?, hW2.2.1]); have hfz1 : w2.frozen? ⟨w.heap.size, 1, none⟩ = false := (by simp [World.frozen?, hW2.2.1]); have hltb := heap_lt hW2.2.1; have hlook : ∀ n : Nat, (Instr.lookup 46 (.map (some M)) (.string (nameS nxt)) true).run Try.prog (w2.drewN n) = .ok (.tuple #[.int .i64 0, .bool false]) (w2.drewN n) := (fun n => look_name (W := w2.drewN n) HM.out (hW2.1.block _ HM.out.lt) hnl5 hfd); have HW2 := Aside0.mk hW2; clear hR14 hl7 hC7 hW2)
              | (refine ⟨trivial, ?_⟩; gi_at_call 19; refine (callsIn_wide.2 (tapestryref13_Stands.calls 100 A7 c7 nxt A1 c1 tol slack _ _ HC7.out HL7.out (C_blocks HR1.out HW2.out.1.block) HC1.out H19.out)).mono ?_; rintro e w3 ⟨rfl, ⟨⟨n2, rfl⟩⟩⟩)
              | (refine ⟨trivial, ?_⟩; gi_at_call 21; refine (callsIn_wide.2 (name_calls A7 c7 nxt _ (Kd.C_drewN HC7.out _) HL7.out (by omega) HRG.out)).mono ?_; rintro e w3 ⟨rfl, ⟨⟨n3, rfl⟩⟩⟩))
              refine ⟨kk, by omega, j + 1, _, _, _, _, _, _, _, _, _, _, _, _, _, _, _, _, _, _, _, _, _, _, _, _, _, _, _, _, _, _, _, _, _, _, _, _, _, _, _, by rw [HBY.out]; rfl, by rw [HNN.out]; omega, by omega, HW2.out.below (pw_below_drewN (Below.refl _ _) _), FIN.out (by have h1 := HNX.out; have h2 := HDD.out; simp [good, h1, h2])⟩
            | some e =>
              rw [hdd] at hfd
              have HDD := Go.Lib.hid hdd
              clear hdd
              by_cases hem : e = m
              · have hb1 : ((e : Int) == (m : Int)) = true := by simp [hem]
                have HEM := Go.Lib.hid hem
                clear hem
                gi_wp2_with (first
              | (refine ⟨trivial, ?_⟩; gi_at_call 25; refine (callsIn_wide.2 (tapestryref13_power.calls 100 _ _ _ H25.out)).mono ?_; rintro e w1 ⟨rfl, ⟨⟨n1, rfl⟩⟩⟩)
              | (refine ⟨trivial, ?_⟩; gi_at_call 23; refine (callsIn_wide.2 (tapestryref13_Behind.calls 100 A0 c0 s _ _ nxt _ (C_blocks HR0.out (HW.out.below (pw_below_drewN (Below.refl _ _) _)).1.block) HC0.out H23.out)).mono ?_; rintro e w2 ⟨v14, rfl, hR14, hB14⟩; obtain ⟨A7, c7, rfl, hl7, hC7⟩ := Kd.R_reads hR14; have HC7 := Aside0.mk hC7; have HL7 := Aside0.mk hl7; have hW2 := (HW.out.below (pw_below_drewN (Below.refl _ _) _)).below hB14; have hcb0 : w2.cell? ⟨w.heap.size, 0, none⟩ = some (.int .i64 0) := blk_cell hW2.2.1 0; have hcb1 : w2.cell? ⟨w.heap.size, 1, none⟩ = some (.int .i64 0) := blk_cell hW2.2.1 1; have hfz : w2.frozen? ⟨w.heap.size, 0, none⟩ = false := (by simp [World.frozen?, hW2.2.1]); have hfz1 : w2.frozen? ⟨w.heap.size, 1, none⟩ = false := (by simp [World.frozen?, hW2.2.1]); have hltb := heap_lt hW2.2.1; have hlook : ∀ n : Nat, (Instr.lookup 46 (.map (some M)) (.string (nameS nxt)) true).run Try.prog (w2.drewN n) = .ok (.tuple #[.int .i64 e, .bool true]) (w2.drewN n) := (fun n => look_name (W := w2.drewN n) HM.out (hW2.1.block _ HM.out.lt) hnl5 hfd); have HW2 := Aside0.mk hW2; clear hR14 hl7 hC7 hW2)
              | (refine ⟨trivial, ?_⟩; gi_at_call 19; refine (callsIn_wide.2 (tapestryref13_Stands.calls 100 A7 c7 nxt A1 c1 tol slack _ _ HC7.out HL7.out (C_blocks HR1.out HW2.out.1.block) HC1.out H19.out)).mono ?_; rintro e w3 ⟨rfl, ⟨⟨n2, rfl⟩⟩⟩)
              | (refine ⟨trivial, ?_⟩; gi_at_call 21; refine (callsIn_wide.2 (name_calls A7 c7 nxt _ (Kd.C_drewN HC7.out _) HL7.out (by omega) HRG.out)).mono ?_; rintro e w3 ⟨rfl, ⟨⟨n3, rfl⟩⟩⟩))
                have hg : good tol slack m s (byOf i, (j : Int)) = true := by have h1 := HNX.out; have h2 := HDD.out; have h3 := HEM.out; have h4 := HON.out; simp [good, h1, h2, h3, h4]
                have hxx := find_lex HHQ.out hg HPRE.out
                rw [HX.out] at hxx
                obtain rfl := Option.some.inj hxx
                have hblk := blk_put (blk_put (show (w2.drewN (n3 + n2)).heap[w.heap.size]? = _ from HW2.out.2.1) 0 (.int .i64 by0) rfl) 1 (.int .i64 (j : Int)) rfl
                refine ⟨_, results_single rfl (.cell w.heap.size 43 _ (0, 0) _ rfl hblk Try.underlying43 rfl (by kernel_rfl) .nil), ?_, ?_⟩
                · rw [HBY.out]; rfl
                · exact (((HW2.out.below (pw_below_drewN (Below.refl _ _) _)).1).setCell (Nat.le_refl _) _).setCell (Nat.le_refl _) _
              · have hb1 : ((e : Int) == (m : Int)) = false := by simp; omega
                have HEM := Go.Lib.hid hem
                clear hem
                gi_wp2_with (first
              | (refine ⟨trivial, ?_⟩; gi_at_call 25; refine (callsIn_wide.2 (tapestryref13_power.calls 100 _ _ _ H25.out)).mono ?_; rintro e w1 ⟨rfl, ⟨⟨n1, rfl⟩⟩⟩)
              | (refine ⟨trivial, ?_⟩; gi_at_call 23; refine (callsIn_wide.2 (tapestryref13_Behind.calls 100 A0 c0 s _ _ nxt _ (C_blocks HR0.out (HW.out.below (pw_below_drewN (Below.refl _ _) _)).1.block) HC0.out H23.out)).mono ?_; rintro e w2 ⟨v14, rfl, hR14, hB14⟩; obtain ⟨A7, c7, rfl, hl7, hC7⟩ := Kd.R_reads hR14; have HC7 := Aside0.mk hC7; have HL7 := Aside0.mk hl7; have hW2 := (HW.out.below (pw_below_drewN (Below.refl _ _) _)).below hB14; have hcb0 : w2.cell? ⟨w.heap.size, 0, none⟩ = some (.int .i64 0) := blk_cell hW2.2.1 0; have hcb1 : w2.cell? ⟨w.heap.size, 1, none⟩ = some (.int .i64 0) := blk_cell hW2.2.1 1; have hfz : w2.frozen? ⟨w.heap.size, 0, none⟩ = false := (by simp [World.frozen?, hW2.2.1]); have hfz1 : w2.frozen? ⟨w.heap.size, 1, none⟩ = false := (by simp [World.frozen?, hW2.2.1]); have hltb := heap_lt hW2.2.1; have hlook : ∀ n : Nat, (Instr.lookup 46 (.map (some M)) (.string (nameS nxt)) true).run Try.prog (w2.drewN n) = .ok (.tuple #[.int .i64 e, .bool true]) (w2.drewN n) := (fun n => look_name (W := w2.drewN n) HM.out (hW2.1.block _ HM.out.lt) hnl5 hfd); have HW2 := Aside0.mk hW2; clear hR14 hl7 hC7 hW2)
              | (refine ⟨trivial, ?_⟩; gi_at_call 19; refine (callsIn_wide.2 (tapestryref13_Stands.calls 100 A7 c7 nxt A1 c1 tol slack _ _ HC7.out HL7.out (C_blocks HR1.out HW2.out.1.block) HC1.out H19.out)).mono ?_; rintro e w3 ⟨rfl, ⟨⟨n2, rfl⟩⟩⟩)
              | (refine ⟨trivial, ?_⟩; gi_at_call 21; refine (callsIn_wide.2 (name_calls A7 c7 nxt _ (Kd.C_drewN HC7.out _) HL7.out (by omega) HRG.out)).mono ?_; rintro e w3 ⟨rfl, ⟨⟨n3, rfl⟩⟩⟩))
                refine ⟨kk, by omega, j + 1, _, _, _, _, _, _, _, _, _, _, _, _, _, _, _, _, _, _, _, _, _, _, _, _, _, _, _, _, _, _, _, _, _, _, _, _, _, _, _, by rw [HBY.out]; rfl, by rw [HNN.out]; omega, by omega, HW2.out.below (pw_below_drewN (Below.refl _ _) _), FIN.out (by have h1 := HNX.out; have h2 := HDD.out; have h3 := HEM.out; simp [good, h1, h2, h3])⟩
          · have hok' : okL slack none tol nxt = false := by simpa using hok
            rw [hok'] at H19
            have HOK := Go.Lib.hid hok'
            clear hok hok'
            gi_wp2_with (first
              | (refine ⟨trivial, ?_⟩; gi_at_call 25; refine (callsIn_wide.2 (tapestryref13_power.calls 100 _ _ _ H25.out)).mono ?_; rintro e w1 ⟨rfl, ⟨⟨n1, rfl⟩⟩⟩)
              | (refine ⟨trivial, ?_⟩; gi_at_call 23; refine (callsIn_wide.2 (tapestryref13_Behind.calls 100 A0 c0 s _ _ nxt _ (C_blocks HR0.out (HW.out.below (pw_below_drewN (Below.refl _ _) _)).1.block) HC0.out H23.out)).mono ?_; rintro e w2 ⟨v14, rfl, hR14, hB14⟩; obtain ⟨A7, c7, rfl, hl7, hC7⟩ := Kd.R_reads hR14; have HC7 := Aside0.mk hC7; have HL7 := Aside0.mk hl7; have hW2 := (HW.out.below (pw_below_drewN (Below.refl _ _) _)).below hB14; have hcb0 : w2.cell? ⟨w.heap.size, 0, none⟩ = some (.int .i64 0) := blk_cell hW2.2.1 0; have hcb1 : w2.cell? ⟨w.heap.size, 1, none⟩ = some (.int .i64 0) := blk_cell hW2.2.1 1; have hfz : w2.frozen? ⟨w.heap.size, 0, none⟩ = false := (by simp [World.frozen?, hW2.2.1]); have hfz1 : w2.frozen? ⟨w.heap.size, 1, none⟩ = false := (by simp [World.frozen?, hW2.2.1]); have hltb := heap_lt hW2.2.1; have HW2 := Aside0.mk hW2; clear hR14 hl7 hC7 hW2)
              | (refine ⟨trivial, ?_⟩; gi_at_call 19; refine (callsIn_wide.2 (tapestryref13_Stands.calls 100 A7 c7 nxt A1 c1 tol slack _ _ HC7.out HL7.out (C_blocks HR1.out HW2.out.1.block) HC1.out H19.out)).mono ?_; rintro e w3 ⟨rfl, ⟨⟨n2, rfl⟩⟩⟩)
              | (refine ⟨trivial, ?_⟩; gi_at_call 21; refine (callsIn_wide.2 (name_calls A7 c7 nxt _ (Kd.C_drewN HC7.out _) HL7.out (by omega) HRG.out)).mono ?_; rintro e w3 ⟨rfl, ⟨⟨n3, rfl⟩⟩⟩))
            refine ⟨kk, by omega, j + 1, _, _, _, _, _, _, _, _, _, _, _, _, _, _, _, _, _, _, _, _, _, _, _, _, _, _, _, _, _, _, _, _, _, _, _, _, _, _, _, by rw [HBY.out]; rfl, by rw [HNN.out]; omega, by omega, HW2.out.below (pw_below_drewN (Below.refl _ _) _), FIN.out (by have h1 := HNX.out; have h2 := HOK.out; simp [good, Ok, h1, h2])⟩
end Go.Proofs.Ytehchpjjcohecaa.X
end
/- YtehchpjjcohecaaM9 -/
section
/- The search layer by layer: the same invariants, the passes in another order, with By = 0 among them. -/
namespace Go.Proofs.Ytehchpjjcohecaa.X
set_option linter.unusedVariables false
variable {tol : List Int} {slack : Int} {g : List Int → Option Nat} {seen todo : List (List Int)} {at_ : List Int} {d : Nat} {pre : List (Int × Int)}
theorem Rnd.all (h : Rnd tol slack g seen todo at_ d pre) (ha : ∀ p ∈ allP tol.length, neg p ∈ pre) : Bfs tol slack g seen todo := by
  refine Rnd.done_ (at_ := at_) (d := d) ?_
  have hpart : ∀ y ∈ allP tol.length, Ok tol slack (mv (neg y) at_) → ∃ e, g (mv (neg y) at_) = some e ∧ e ≤ d + 1 := fun y hy ho => by
    have h1 := ha (neg y) (neg_mem _ y hy)
    rw [neg_neg] at h1
    exact h.part y h1 ho
  exact { h with part := hpart }
theorem mvN_zero : ∀ (w : Nat) (l : List Int), mvN 0 w l = l
  | _, [] => rfl
  | w, x :: xs => by simp [mvN, mvN_zero (w / 2) xs]
theorem mv_zero (w : Int) (l : List Int) : mv (0, w) l = l := mvN_zero _ _
/-- Behind a pass (b, w): as Rnd.skip, Rnd.old, Rnd.new, with the pass as it is tried here. -/
theorem Rnd.skip' (h : Rnd tol slack g seen todo at_ d pre) (x : Int × Int) (hx : ¬ Ok tol slack (mv x at_)) : Rnd tol slack g seen todo at_ d (pre ++ [neg x]) :=
  h.skip (neg x) (by rwa [neg_neg])
theorem Rnd.old' (h : Rnd tol slack g seen todo at_ d pre) (x : Int × Int) (hx : (g (mv x at_)).isSome = true) : Rnd tol slack g seen todo at_ d (pre ++ [neg x]) :=
  h.old (neg x) (by rwa [neg_neg])
theorem Rnd.new' (h : Rnd tol slack g seen todo at_ d pre) (x : Int × Int) (hp : x ∈ allP tol.length) (ho : Ok tol slack (mv x at_)) (hx : (g (mv x at_)).isSome = false) :
    Rnd tol slack (fun s => if s = mv x at_ then some (d + 1) else g s) (seen ++ [mv x at_]) (todo ++ [mv x at_]) at_ d (pre ++ [neg x]) := by
  have := h.new (neg x) (neg_mem _ x hp) (by rwa [neg_neg]) (by rwa [neg_neg])
  rwa [neg_neg] at this
theorem Rnd.at_old (h : Rnd tol slack g seen todo at_ d pre) (w : Int) : (g (mv (0, w) at_)).isSome = true := by rw [mv_zero, h.here]; rfl
end Go.Proofs.Ytehchpjjcohecaa.X
end
/- YtehchpjjcohecaaC20a -/
section
/- What lies in memory while tapestryref13.Layers goes on. -/
namespace Go.Proofs.Ytehchpjjcohecaa.X
open Go.RowKit Go.Shelf Go.Maps Go.WideMaps Go.WideElems Go.Proofs.YtehchpjjcohecaaW.PrintWords Go.Proofs.YtehchpjjcohecaaW.PrintLast Go.Proofs.YtehchpjjcohecaaW.PrintMore
set_option linter.unusedVariables false
set_option linter.unusedSimpArgs false

def RowsS (B : Nat) (W : World) (hs : List SV) (xs : List (List Int)) : Prop :=
  hs.length = xs.length ∧ ∀ (i : Nat) (x : SV) (l : List Int), hs[i]? = some x → xs[i]? = some l → Sees B W x l
def LayW (w : World) (M : Nat) (f : Lit → Option Int) (cnt : Nat) (vL : Value) (last : List (List Int)) (vN : Value) (next : List (List Int)) (W : World) : Prop :=
  Below w.heap.size w W ∧ MapL Try.prog 9 3 W M cnt f ∧ w.heap.size ≤ M ∧ ∃ hsL hsN : List SV, Kd.Q kSV 22 W w.heap.size (fun k => some k = vL.ownBlock) vL hsL ∧ RowsS w.heap.size W hsL last ∧ Kd.Q kSV 22 W w.heap.size (fun k => some k ≠ vL.ownBlock) vN hsN ∧ RowsS w.heap.size W hsN next
theorem kSV_E : ∀ q ∈ 22 :: kSV.E, q = 22 := by
  intro q hq
  simp [kSV, Kd.scalar] at hq
  exact hq
/-- A queue's own block alone. -/
theorem kSV_own {W : World} {B : Nat} {ok : Nat → Prop} {v : Value} {hs : List SV} (h : Kd.Q kSV 22 W B ok v hs) : Kd.Q kSV 22 W B (fun k => some k = v.ownBlock) v hs := by
  obtain ⟨h0, inner, h1, h2⟩ := h
  exact ⟨fun k hk => hk.symm, inner, h1, h2.imp_ (fun _ _ hp => hp)⟩
section
variable {w : World} {M : Nat} {f f' : Lit → Option Int} {cnt cnt' : Nat} {vL vN : Value} {last next : List (List Int)} {W W1 : World}
theorem RowsS.move {B : Nat} {hs : List SV} {xs : List (List Int)} (h : RowsS B W hs xs) (hs' : W.heap.size ≤ W1.heap.size) (hk : ∀ k, k < W.heap.size → (k < B ∨ ∃ cells t, W.heap[k]? = some (.cells cells t (0, 0)) ∧ t = 3) → W1.heap[k]? = W.heap[k]?) : RowsS B W1 hs xs :=
  ⟨h.1, fun i x l a b => (h.2 i x l a b).move hs' hk⟩
theorem LayW.move (h : LayW w M f cnt vL last vN next W) (hB : Below w.heap.size w W1) (hs : W.heap.size ≤ W1.heap.size) (hk : ∀ k, k < W.heap.size → (k < w.heap.size ∨ ∃ cells t, W.heap[k]? = some (.cells cells t (0, 0))) → W1.heap[k]? = W.heap[k]?)
    (hm : MapL Try.prog 9 3 W1 M cnt' f') : LayW w M f' cnt' vL last vN next W1 := by
  obtain ⟨h1, h2, h3, hsL, hsN, h4, h5, h6, h7⟩ := h
  have mv3 : ∀ k, k < W.heap.size → (k < w.heap.size ∨ ∃ cells t, W.heap[k]? = some (.cells cells t (0, 0)) ∧ t = 3) → W1.heap[k]? = W.heap[k]? := fun k a b => hk k a (b.imp id (fun ⟨c, t, e, _⟩ => ⟨c, t, e⟩))
  refine ⟨hB, hm, h3, hsL, hsN, ?_, h5.move hs mv3, ?_, h7.move hs mv3⟩
  · refine Kd.Q_mono (Kd.Q_move (Kd.Q_bound h4) (fun k hk' => ?_)) (fun k hk' => hk'.1)
    obtain ⟨_, _, a, q, _, cells, e⟩ := hk'
    exact hk k a (.inr ⟨_, _, e⟩)
  · refine Kd.Q_mono (Kd.Q_move (Kd.Q_bound h6) (fun k hk' => ?_)) (fun k hk' => hk'.1)
    obtain ⟨_, _, a, q, _, cells, e⟩ := hk'
    exact hk k a (.inr ⟨_, _, e⟩)
theorem LayW.below (h : LayW w M f cnt vL last vN next W) (hb : Below W.heap.size W W1) : LayW w M f cnt vL last vN next W1 :=
  h.move (h.1.trans (hb.mono h.1.size)) hb.size (fun k a _ => hb.block k a) (h.2.1.same (hb.block _ h.2.1.lt))
/-- The map is written. -/
theorem LayW.map (h : LayW w M f cnt vL last vN next W) (hg : W.grownBy W1 (some M)) (hm : MapL Try.prog 9 3 W1 M cnt' f') : LayW w M f' cnt' vL last vN next W1 := by
  refine h.move (h.1.grown hg h.1.size (fun k e => by cases e; exact h.2.2.1)) hg.size (fun k a b => hg.block k a (fun e => ?_)) hm
  cases e
  rcases b with b | ⟨c, t, e⟩
  · have := h.2.2.1
    omega
  · exact cells_ne e h.2.1.block rfl
/-- One more in the next layer. -/
theorem LayW.push (h : LayW w M f cnt vL last vN next W) {x : SV} {l : List Int} (hx : Sees w.heap.size W x l) (hl : next.length + 1 ≤ 300000) :
    ∃ v1 w1, (∃ A6 n6 c6, v1 = .slice A6 n6 c6) ∧ (Builtin.append_ #[53, 53] 53 #[vN, .slice (some ⟨W.heap.size, 0, none⟩) 1 1]).run Try.prog (W.alloc (.cells #[.slice x.1 x.2.1 x.2.2] 22)) = .ok v1 w1 ∧ LayW w M f cnt vL last v1 (next ++ [l]) w1 ∧ ∀ y ly, Sees w.heap.size W y ly → Sees w.heap.size w1 y ly := by
  obtain ⟨h1, h2, h3, hsL, hsN, h4, h5, h6, h7⟩ := h
  obtain ⟨v1, w1, hrun, hQ, hB, hg, hat⟩ := Kd.Q_run (P := Try.prog) kSV (w0 := w) (W := W) w.heap.size 53 53 22 (.slice none 0 0) 24 Try.underlying53 info22 rfl (by decide) (by decide) vN hsN x [.slice x.1 x.2.1 x.2.2] (fun k => some k ≠ vL.ownBlock) (fun _ => False) rfl (fun _ h => h.elim)
    (fun k hk e => by have := Kd.Q_lt h4 k e.symm; omega) h6 h1 h1.size (by rw [h7.1]; omega)
  obtain ⟨A6, c6, hv6, _⟩ := Kd.Q_slice hQ
  have own : ∀ k, vN.ownBlock = some k → k < W.heap.size ∧ w.heap.size ≤ k ∧ (∃ cells, W.heap[k]? = some (.cells cells 22 (0, 0))) ∧ some k ≠ vL.ownBlock := fun k hk => by
    obtain ⟨_, hb⟩ := Kd.Q_bound h6
    have h8 := (Kd.Q_bound h6).1 k hk
    obtain ⟨a1, a2, a3, q, hq, cells, e⟩ := h8
    have := kSV_E q hq
    subst this
    exact ⟨a3, a2, ⟨cells, e⟩, a1⟩
  have same3 : ∀ k, k < W.heap.size → (k < w.heap.size ∨ ∃ cells t, W.heap[k]? = some (.cells cells t (0, 0)) ∧ t = 3) → w1.heap[k]? = W.heap[k]? := fun k a b => hg.block k a (fun e => by
    obtain ⟨_, b1, ⟨cells, b2⟩, _⟩ := own k e.symm
    rcases b with b | ⟨c, t, e3, ht⟩
    · omega
    · rw [e3] at b2
      cases b2
      cases ht)
  refine ⟨v1, w1, ⟨A6, _, c6, hv6⟩, hrun, ⟨hB, h2.same (hg.block _ h2.lt (fun e => ?_)), h3, hsL, hsN ++ [x], ?_, h5.move hg.size same3, hQ, ?_⟩, fun y ly hy => hy.move hg.size same3⟩
  · obtain ⟨_, _, ⟨cells, b2⟩, _⟩ := own M e.symm
    exact cells_ne b2 h2.block rfl
  · refine Kd.Q_grown h4 hg (fun k hk e => ?_)
    exact (own k e.symm).2.2.2 hk
  · refine ⟨by simp [h7.1], fun i y l' a b => ?_⟩
    rw [List.getElem?_append] at a b
    rw [h7.1] at a
    split at a
    · rename_i hi
      rw [if_pos hi] at b
      exact (h7.2 i y l' a b).move hg.size same3
    · rename_i hi
      rw [if_neg hi] at b
      generalize i - next.length = j at a b
      rcases j with _ | j
      · simp at a b
        subst a b
        exact hx.move hg.size same3
      · simp at a
/-- The next layer is the last one. -/
theorem LayW.swap (h : LayW w M f cnt vL last vN next W) : LayW w M f cnt vN next (.slice none 0 0) [] W := by
  obtain ⟨h1, h2, h3, hsL, hsN, h4, h5, h6, h7⟩ := h
  exact ⟨h1, h2, h3, hsN, [], kSV_own h6, h7, Kd.Q_nil _ _ _ _ _, rfl, fun i x l a _ => by simp at a⟩
end
end Go.Proofs.Ytehchpjjcohecaa.X
end
