import Derived.Test.YtehchpjjcohecaaXF3
import Derived.Test.YtehchpjjcohecaaM5
namespace Go.Proofs.Ytehchpjjcohecaa.Pure
open Go.RowKit Go.Proofs.Ytehchpjjcohecaa.X Go.Proofs.YtehchpjjcohecaaW.PrintWords Go.Proofs.YtehchpjjcohecaaW.PrintLast
set_option linter.unusedSimpArgs false

theorem plan_wrong {src tol : List Int} {slack : Int} {l : List S43} (h : planR src tol slack = (l, 0)) : wrongS src tol slack = 0 := by
  unfold planR at h
  by_cases hw : wrongS src tol slack = 0
  · exact hw
  · rw [if_pos hw] at h
    simp only [Prod.mk.injEq] at h
    exact absurd h.2 hw
theorem mir_drop {l : List Int} {i : Nat} (h : i < l.length) : mir (l.drop i) = mir (l.drop (i + 1)) ++ [11 - l[i]] := by
  rw [List.drop_eq_getElem_cons h, mir_cons]
theorem mirr_l0 (src tol : List Int) (slack : Int) (l l' : List S43) (hl : src.length = tol.length) (h5 : src.length ≤ 5) (hr : ∀ x ∈ src ++ tol, 0 ≤ x ∧ x < 12) (hp : planR (mir src) (mir tol) slack = (l', 0)) (hll : l'.length = l.length) :
    ∀ (i k : Nat), i ≤ src.length → i < k → tapestrylaw13_PassesMirrored.l0 k src tol slack l (mir (src.drop i)) (mir (tol.drop i)) ((i : Int) - 1) = some true
  | 0, 0, _, h => by omega
  | 0, k + 1, _, _ => by
    simp only [tapestrylaw13_PassesMirrored.l0, List.drop_zero]
    rw [if_neg (by omega)]
    simp [passes_Plan.f, hp, hll]
  | i + 1, 0, _, h => by omega
  | i + 1, k + 1, hi, hk => by
    have e : (((i + 1 : Nat) : Int) - 1) = (i : Int) := by omega
    rw [e, tapestrylaw13_PassesMirrored.l0, if_pos (by omega), if_pos (by omega), if_pos (by omega)]
    have hi1 : i < src.length := by omega
    have hi2 : i < tol.length := by omega
    have r1 := hr src[i] (by simp)
    have r2 := hr tol[i] (by simp)
    rw [rd_nat src i hi1, rd_nat tol i hi2, w64 (by omega) (by omega), w64 (by omega) (by omega), w64 (by omega) (by omega)]
    simp only [Option.bind_some]
    rw [if_pos (by simp [mir_length]; omega), if_pos (by omega), if_pos (by simp [mir_length]; omega), ← mir_drop hi1, ← mir_drop hi2]
    exact mirr_l0 src tol slack l l' hl h5 hr hp hll i k (by omega) (by omega)

theorem alive_f : tapestrylaw13_alive.f = some true := by
  obtain ⟨l, hl, hn⟩ := alive_plan
  simp [tapestrylaw13_alive.f, passes_Plan.f, hl, hn]
theorem PassesMirrored : tapestrylaw13_PassesMirrored.Pure := by
  intro l0 l1 a2 h1 h2 h3 h4 h5 h6 h7
  refine ⟨100, ?_⟩
  unfold tapestrylaw13_PassesMirrored.f
  rw [alive_f]
  obtain ⟨l, e, he⟩ : ∃ l e, planR l0 l1 a2 = (l, e) := ⟨_, _, rfl⟩
  simp only [Option.bind_some, passes_Plan.f, he, if_true]
  by_cases h0 : e = 0
  · subst h0
    obtain ⟨l', hp, hll, hr⟩ := plan_mir he
    obtain ⟨w1, w5, wl, _⟩ := wrong_ok (plan_wrong he)
    rw [if_pos rfl, w64 (by omega) (by omega)]
    have := mirr_l0 l0 l1 a2 l l' wl w5 hr hp hll l0.length 100 (Nat.le_refl _) (by omega)
    rw [List.drop_length, wl, List.drop_length, ← wl] at this
    exact this
  · rw [if_neg h0]
end Go.Proofs.Ytehchpjjcohecaa.Pure
