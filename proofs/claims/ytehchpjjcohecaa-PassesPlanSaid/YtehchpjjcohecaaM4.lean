import Derived.Test.YtehchpjjcohecaaM3
import Derived.Test.YtehchpjjcohecaaXF8
/- What is wrong with a puzzle; the plan. -/
namespace Go.Proofs.Ytehchpjjcohecaa.X
open Go.RowKit Go.Proofs.YtehchpjjcohecaaW.PrintWords Go.Proofs.YtehchpjjcohecaaW.PrintLast Go.Proofs.YtehchpjjcohecaaW.PrintMore
set_option linter.unusedVariables false
set_option linter.unusedSimpArgs false

def twins : List Int → Bool
  | x :: y :: l => decide (y = x) || twins (y :: l)
  | _ => false
def wrongS (src tol : List Int) (slack : Int) : Int :=
  if src.length < 1 ∨ src.length > 5 ∨ src.length ≠ tol.length then 5
  else if slack < 1 ∨ slack ≥ 12 then 3
  else if twins src then 8
  else if okL slack none tol src && okL slack none tol tol then 0 else 8

theorem wrong_ok {src tol : List Int} {slack : Int} (h : wrongS src tol slack = 0) : 1 ≤ src.length ∧ src.length ≤ 5 ∧ src.length = tol.length ∧ 1 ≤ slack ∧ slack < 12 ∧ Ok tol slack src ∧ Ok tol slack tol := by
  unfold wrongS at h
  split at h
  · cases h
  · rename_i c1
    split at h
    · cases h
    · rename_i c2
      split at h
      · cases h
      · split at h
        · rename_i c3
          simp only [Bool.and_eq_true] at c3
          exact ⟨by omega, by omega, by omega, by omega, by omega, ⟨by omega, c3.1⟩, ⟨rfl, c3.2⟩⟩
        · cases h
/-- A pass that leads one step nearer. -/
noncomputable def good (tol : List Int) (slack : Int) (k : Nat) (s : List Int) (p : Int × Int) : Bool := decide (Ok tol slack (mv p s)) && decide (dist tol slack (mv p s) = some k)
noncomputable def planS (tol : List Int) (slack : Int) : Nat → List Int → List (Int × Int)
  | 0, _ => []
  | k + 1, s => match (allP tol.length).find? (good tol slack k s) with
    | some p => p :: planS tol slack k (mv p s)
    | none => []
def toP (p : Int × Int) : S43 := ⟨p.1, p.2⟩
noncomputable def planR (src tol : List Int) (slack : Int) : List S43 × Int :=
  if wrongS src tol slack ≠ 0 then ([], wrongS src tol slack)
  else match dist tol slack src with
    | none => ([], 6)
    | some d => ((planS tol slack d src).map toP, 0)

theorem good_some {tol : List Int} {slack : Int} {k : Nat} {s : List Int} (h : dist tol slack s = some (k + 1)) : ∃ p ∈ allP tol.length, good tol slack k s p = true := by
  obtain ⟨⟨p, hp, ho, hr⟩, hmin⟩ := dist_some h
  obtain ⟨d, hd, hle, hr'⟩ := dist_le hr
  have := hmin (d + 1) ⟨p, hp, ho, hr'⟩
  have : d = k := by omega
  subst this
  exact ⟨p, hp, by simp [good, ho, hd]⟩
theorem find_first {α : Type} (q : α → Bool) (pre : List α) (x : α) (post : List α) (hp : ∀ y ∈ pre, q y = false) (hx : q x = true) : (pre ++ x :: post).find? q = some x := by
  rw [List.find?_append]
  have : pre.find? q = none := by rw [List.find?_eq_none]; intro y hy; simp [hp y hy]
  rw [this]
  simp [List.find?_cons, hx]
theorem planS_step {tol : List Int} {slack : Int} {k : Nat} {s : List Int} {pre : List (Int × Int)} {x : Int × Int} (hpre : pre ++ [x] <+: allP tol.length) (hp : ∀ y ∈ pre, good tol slack k s y = false) (hx : good tol slack k s x = true) : planS tol slack (k + 1) s = x :: planS tol slack k (mv x s) := by
  obtain ⟨post, hpost⟩ := hpre
  have : (allP tol.length).find? (good tol slack k s) = some x := by
    rw [← hpost, List.append_assoc]
    exact find_first _ pre x post hp hx
  simp [planS, this]

theorem twins_l0 (src tol : List Int) (slack : Int) (hl : src.length = tol.length) (h1 : 1 ≤ src.length) (h5 : src.length ≤ 5) : ∀ (d i k : Nat), i + d = src.length → 1 ≤ i → d + 20 < k →
    passes_Wrong.l0 k src tol (i : Int) tol slack = some (if twins (src.drop (i - 1)) then 8 else if okL slack none tol src && okL slack none tol tol then 0 else 8) := by
  intro d
  induction d with
  | zero =>
    intro i k hd hi hk
    obtain ⟨k, rfl⟩ : ∃ m, k = m + 1 := ⟨k - 1, by omega⟩
    simp only [passes_Wrong.l0]
    have e1 : src.drop (i - 1) = [src[i - 1]] := by
      rw [List.drop_eq_getElem_cons (by omega), List.drop_eq_nil_of_le (by omega)]
    rw [if_neg (by omega), e1, ok_f tol src slack hl (by omega) k (by omega), ok_f tol tol slack rfl (by omega) k (by omega)]
    simp only [Option.bind_some, twins]
    cases okL slack none tol src <;> cases okL slack none tol tol <;> simp
  | succ d ih =>
    intro i k hd hi hk
    obtain ⟨k, rfl⟩ : ∃ m, k = m + 1 := ⟨k - 1, by omega⟩
    simp only [passes_Wrong.l0]
    have hw : wrap64 ((i : Int) - 1) = ((i - 1 : Nat) : Int) := by rw [w64 (by omega) (by omega)]; omega
    have hn : wrap64 ((i : Int) + 1) = ((i + 1 : Nat) : Int) := by rw [w64 (by omega) (by omega)]; omega
    rw [if_pos (by omega), if_pos (by omega), hw, if_pos (by omega), if_pos (by omega), rd_nat src i (by omega), rd_nat src (i - 1) (by omega), hn]
    have e1 : src.drop (i - 1) = src[i - 1] :: src[i] :: src.drop (i + 1) := by
      rw [List.drop_eq_getElem_cons (by omega)]
      congr 1
      rw [show i - 1 + 1 = i by omega, List.drop_eq_getElem_cons (by omega)]
    have e2 : src.drop (i + 1 - 1) = src[i] :: src.drop (i + 1) := by rw [show i + 1 - 1 = i by omega, List.drop_eq_getElem_cons (by omega)]
    rw [e1]
    simp only [twins]
    by_cases c : src[i] = src[i - 1]
    · rw [if_pos c]; simp [c]
    · rw [if_neg c, ih (i + 1) k (by omega) (by omega) (by omega), e2]
      simp [c]
theorem wrong_f (src tol : List Int) (slack : Int) (k : Nat) (hk : 30 ≤ k) : passes_Wrong.f k src tol slack = some (wrongS src tol slack) := by
  obtain ⟨k, rfl⟩ : ∃ m, k = m + 1 := ⟨k - 1, by omega⟩
  obtain ⟨k, rfl⟩ : ∃ m, k = m + 1 := ⟨k - 1, by omega⟩
  unfold passes_Wrong.f wrongS
  by_cases c1 : (src.length : Int) < 1
  · rw [if_pos c1, if_pos (show src.length < 1 ∨ src.length > 5 ∨ src.length ≠ tol.length by omega)]
    simp only [passes_Wrong.j0, if_true]
  rw [if_neg c1]
  by_cases c2 : (src.length : Int) > 5
  · rw [if_pos c2, if_pos (show src.length < 1 ∨ src.length > 5 ∨ src.length ≠ tol.length by omega)]
    simp only [passes_Wrong.j0, if_true]
  rw [if_neg c2]
  simp only [passes_Wrong.j0]
  by_cases c3 : src.length = tol.length
  · rw [if_neg (show ¬ (((src.length : Int) != (tol.length : Int)) = true) by simp [c3]), if_neg (show ¬ (src.length < 1 ∨ src.length > 5 ∨ src.length ≠ tol.length) by omega)]
    by_cases c4 : slack < 1
    · rw [if_pos c4, if_pos (show slack < 1 ∨ slack ≥ 12 by omega)]
      simp only [passes_Wrong.j1, if_true]
    rw [if_neg c4]
    simp only [passes_Wrong.j1]
    by_cases c5 : slack ≥ 12
    · rw [decide_eq_true c5, if_pos (show slack < 1 ∨ slack ≥ 12 by omega)]
      simp only [if_true]
    rw [decide_eq_false c5, if_neg (show ¬ (false = true) by simp), if_neg (show ¬ (slack < 1 ∨ slack ≥ 12) by omega)]
    have h := twins_l0 src tol slack c3 (by omega) (by omega) (src.length - 1) 1 k (by omega) (by omega) (by omega)
    simpa using h
  · rw [if_pos (show ((src.length : Int) != (tol.length : Int)) = true by simp; omega), if_pos (show src.length < 1 ∨ src.length > 5 ∨ src.length ≠ tol.length by omega)]
end Go.Proofs.Ytehchpjjcohecaa.X
