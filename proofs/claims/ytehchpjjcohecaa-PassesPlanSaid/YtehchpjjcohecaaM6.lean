import Derived.Test.YtehchpjjcohecaaM5
import Derived.Test.YtehchpjjcohecaaXF12
/- What passes.Check tells. -/
namespace Go.Proofs.Ytehchpjjcohecaa.X
open Go.RowKit Go.Proofs.YtehchpjjcohecaaW.PrintWords Go.Proofs.YtehchpjjcohecaaW.PrintLast Go.Proofs.YtehchpjjcohecaaW.PrintMore
set_option linter.unusedVariables false
set_option linter.unusedSimpArgs false

theorem equal_l0 (a b : List Int) (hl : a.length = b.length) (hm : a.length ≤ 4294967296) : ∀ (d i k : Nat), i + d = a.length → d < k → slices_Equal_int_int.l0 k a b (a.length : Int) (i : Int) = some (decide (a.drop i = b.drop i))
  | 0, i, 0, _, h => by omega
  | 0, i, k + 1, hd, _ => by
    simp only [slices_Equal_int_int.l0]
    rw [if_neg (by omega), List.drop_eq_nil_of_le (show a.length ≤ i by omega), List.drop_eq_nil_of_le (show b.length ≤ i by omega)]
    simp
  | d + 1, i, 0, _, h => by omega
  | d + 1, i, k + 1, hd, hk => by
    have hi : i < a.length := by omega
    have hi' : i < b.length := by omega
    simp only [slices_Equal_int_int.l0]
    rw [if_pos (by omega), if_pos (by omega), if_pos (by omega), if_pos (by omega), rd_nat a i hi, rd_nat b i hi', List.drop_eq_getElem_cons hi, List.drop_eq_getElem_cons hi']
    have hnext : wrap64 ((i : Int) + 1) = ((i + 1 : Nat) : Int) := by rw [w64 (by omega) (by omega)]; omega
    by_cases h : a[i] = b[i]
    · rw [if_pos h, hnext, equal_l0 a b hl hm d (i + 1) k (by omega) (by omega)]
      congr 1
      exact decide_eq_decide.2 (by rw [List.cons_eq_cons]; exact ⟨fun e => ⟨h, e⟩, fun e => e.2⟩)
    · rw [if_neg h]
      congr 1
      exact (decide_eq_false (by rw [List.cons_eq_cons]; exact fun e => h e.1)).symm
theorem equal_f (a b : List Int) (hm : a.length ≤ 4294967296) (k : Nat) (hk : a.length < k) : slices_Equal_int_int.f k a b = some (decide (a = b)) := by
  unfold slices_Equal_int_int.f
  by_cases h : a.length = b.length
  · rw [if_pos (by omega)]
    have := equal_l0 a b h hm a.length 0 k (by omega) hk
    simpa using this
  · rw [if_neg (by omega)]
    have : a ≠ b := fun e => h (by rw [e])
    simp [this]

/-- A pass of the row. -/
def passB (n : Nat) (x : S43) : Bool := decide ((x.f0, x.f1) ∈ allP n)
def checkS (tol : List Int) (slack : Int) : List S43 → List Int → Bool
  | [], s => decide (s = tol)
  | x :: xs, s => passB tol.length x && (okL slack none tol (mv (x.f0, x.f1) s) && checkS tol slack xs (mv (x.f0, x.f1) s))
theorem rd_T43_nat (xs : List S43) (i : Nat) (h : i < xs.length) : rd_T43 xs (i : Int) = xs[i] := by simp [rd_T43, List.getD_eq_getElem?_getD, h]
theorem shl_pow (n : Nat) (h : n ≤ 5) : shl .i64 1 (n : Int) = ((2 ^ n : Nat) : Int) := by
  rcases n with _ | _ | _ | _ | _ | _ | n
  all_goals first | decide | omega
theorem check_l0 (src tol : List Int) (slack : Int) (l : List S43) (hl : src.length = tol.length) (h5 : tol.length ≤ 5) (hm : l.length ≤ 9223372036854775807) : ∀ (d i k : Nat) (s : List Int), i + d = l.length → 2 * d + 100 < k → Ok tol slack s →
    passes_Check.l0 k src tol s l (l.length : Int) (i : Int) tol slack = some (checkS tol slack (l.drop i) s, 0)
  | 0, i, 0, s, _, h, _ => by omega
  | 0, i, k + 1, s, hd, hk, ho => by
    simp only [passes_Check.l0]
    rw [if_neg (by omega), List.drop_eq_nil_of_le (show l.length ≤ i by omega), equal_f s tol (by have := ho.1; omega) k (by have := ho.1; omega)]
    simp [checkS]
  | d + 1, i, 0, s, _, h, _ => by omega
  | d + 1, i, 1, s, _, h, _ => by omega
  | d + 1, i, k + 2, s, hd, hk, ho => by
    have hi : i < l.length := by omega
    simp only [passes_Check.l0, passes_Check.j1]
    rw [if_pos (by omega), if_pos (by omega), if_pos (by omega), rd_T43_nat l i hi, List.drop_eq_getElem_cons hi, hl, shl_pow _ h5]
    generalize l[i] = x
    simp only [checkS]
    have hnext : wrap64 ((i : Int) + 1) = ((i + 1 : Nat) : Int) := by rw [w64 (by omega) (by omega)]; omega
    have bad : ∀ h : ¬ ((x.f0, x.f1) ∈ allP tol.length), passB tol.length x = false := fun h => by simp [passB, h]
    rw [mem_allP] at bad
    simp only at bad
    by_cases c0 : x.f0 = 0
    · rw [if_pos c0, if_pos trivial, bad (by omega)]; rfl
    rw [if_neg c0]
    by_cases c1 : x.f0 < -2
    · rw [if_pos c1, if_pos trivial, bad (by omega)]; rfl
    rw [if_neg c1]
    by_cases c2 : x.f0 > 2
    · rw [if_pos c2, if_pos trivial, bad (by omega)]; rfl
    rw [if_neg c2]
    by_cases c3 : x.f1 < 1
    · rw [if_pos c3, if_pos trivial, bad (by omega)]; rfl
    rw [if_neg c3]
    by_cases c4 : x.f1 ≥ ((2 ^ tol.length : Nat) : Int)
    · rw [decide_eq_true c4, if_pos rfl, bad (by omega)]; rfl
    rw [decide_eq_false c4, if_neg (by simp)]
    have hx : (x.f0, x.f1) ∈ allP tol.length := by rw [mem_allP]; simp only; omega
    have hs5 : s.length ≤ 5 := by have := ho.1; omega
    have hmv := moved_f (x.f0, x.f1) tol.length hx h5 s hs5 ho.range k (by omega)
    simp only at hmv
    rw [hmv]
    simp only [Option.bind_some]
    have hml : (mv (x.f0, x.f1) s).length = tol.length := by rw [mv_length]; exact ho.1
    rw [ok_f tol _ slack hml (by omega) k (by omega)]
    simp only [Option.bind_some]
    have hp : passB tol.length x = true := by simp [passB, hx]
    rw [hp]
    by_cases c5 : okL slack none tol (mv (x.f0, x.f1) s) = true
    · rw [if_pos c5, hnext, check_l0 src tol slack l hl h5 hm d (i + 1) k _ (by omega) (by omega) ⟨hml, c5⟩, c5]
      simp
    · rw [if_neg c5]
      simp [c5]
def checkR (src tol : List Int) (slack : Int) (l : List S43) : Bool × Int := if wrongS src tol slack = 0 then (checkS tol slack l src, 0) else (false, wrongS src tol slack)
theorem check_f (src tol : List Int) (slack : Int) (l : List S43) (hm : l.length ≤ 9223372036854775807) (k : Nat) (hk : 2 * l.length + 100 < k) : passes_Check.f k src tol slack l = some (checkR src tol slack l) := by
  unfold passes_Check.f checkR
  rw [wrong_f src tol slack k (by omega)]
  simp only [Option.bind_some]
  by_cases h : wrongS src tol slack = 0
  · rw [if_pos h, if_pos h]
    obtain ⟨h1, h5, hl, _, _, ho, _⟩ := wrong_ok h
    have := check_l0 src tol slack l hl (by omega) hm l.length 0 k src (by omega) hk ho
    simpa using this
  · rw [if_neg h, if_neg h]

/-! ### What does it, does it in as many at least -/
theorem check_rch {tol : List Int} {slack : Int} : ∀ (l : List S43) (s : List Int), s.length = tol.length → checkS tol slack l s = true → Rch tol slack l.length s
  | [], s, _, h => by
    have e : s = tol := by simpa [checkS] using h
    exact e
  | x :: xs, s, hl, h => by
    simp only [checkS, passB, Bool.and_eq_true, decide_eq_true_eq] at h
    have hml : (mv (x.f0, x.f1) s).length = tol.length := by rw [mv_length]; exact hl
    exact ⟨_, h.1, ⟨hml, h.2.1⟩, check_rch xs _ hml h.2.2⟩
theorem check_plan {tol : List Int} {slack : Int} : ∀ (k : Nat) (s : List Int), dist tol slack s = some k → checkS tol slack ((planS tol slack k s).map toP) s = true
  | 0, s, h => by
    have : s = tol := (dist_some h).1
    simp [planS, checkS, this]
  | k + 1, s, h => by
    obtain ⟨p, hp, hg⟩ := good_some h
    have hf : ((allP tol.length).find? (good tol slack k s)).isSome := List.find?_isSome.2 ⟨p, hp, hg⟩
    obtain ⟨x, hx⟩ := Option.isSome_iff_exists.1 hf
    have hgx := List.find?_some hx
    have hmx := List.mem_of_find?_eq_some hx
    simp only [good, Bool.and_eq_true, decide_eq_true_eq] at hgx
    simp only [planS, hx, List.map_cons, checkS, Bool.and_eq_true]
    exact ⟨decide_eq_true hmx, hgx.1.2, check_plan k _ hgx.2⟩
theorem dist_row {tol : List Int} {slack : Int} : ∀ (k : Nat) (s : List Int), dist tol slack s = some k → Ok tol slack s → ∃ L : List (List Int), L.length = k + 1 ∧ L.Nodup ∧ (∀ x ∈ L, Ok tol slack x) ∧ ∀ x ∈ L, ∃ j, j ≤ k ∧ dist tol slack x = some j
  | 0, s, h, ho => ⟨[s], rfl, by simp, by simpa using ho, by simpa using h⟩
  | k + 1, s, h, ho => by
    obtain ⟨p, hp, hg⟩ := good_some h
    simp only [good, Bool.and_eq_true, decide_eq_true_eq] at hg
    obtain ⟨L, h1, h2, h3, h4⟩ := dist_row k (mv p s) hg.2 hg.1
    refine ⟨s :: L, by simp [h1], List.nodup_cons.2 ⟨fun hs => ?_, h2⟩, fun x hx => ?_, fun x hx => ?_⟩
    · obtain ⟨j, hj, e⟩ := h4 s hs
      rw [h] at e
      cases e
      omega
    · rcases List.mem_cons.1 hx with rfl | hx
      · exact ho
      · exact h3 x hx
    · rcases List.mem_cons.1 hx with rfl | hx
      · exact ⟨k + 1, Nat.le_refl _, h⟩
      · obtain ⟨j, hj, e⟩ := h4 x hx
        exact ⟨j, by omega, e⟩
theorem dist_lt {tol : List Int} {slack : Int} {k : Nat} {s : List Int} (hn : tol.length ≤ 5) (h : dist tol slack s = some k) (ho : Ok tol slack s) : k < 248832 := by
  obtain ⟨L, h1, h2, h3, _⟩ := dist_row k s h ho
  have := seen_bound hn L h2 h3
  omega
end Go.Proofs.Ytehchpjjcohecaa.X
