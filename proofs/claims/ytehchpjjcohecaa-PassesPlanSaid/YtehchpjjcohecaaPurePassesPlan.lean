import Derived.Test.YtehchpjjcohecaaXF4
import Derived.Test.YtehchpjjcohecaaG1
/- PassesPlan's plain law. -/
namespace Go.Proofs.Ytehchpjjcohecaa.Pure
open Go.RowKit Go.Proofs.Ytehchpjjcohecaa.X Go.Proofs.YtehchpjjcohecaaW.PrintWords Go.Proofs.YtehchpjjcohecaaW.PrintLast
set_option linter.unusedSimpArgs false
set_option linter.unusedVariables false

theorem planR_short (l0 l1 : List Int) (a2 : Int) : (planR l0 l1 a2).1.length ≤ 248832 := by
  unfold planR
  split
  · simp
  · rename_i hw
    obtain ⟨h1, h5, hl, _, _, ho, _⟩ := wrong_ok (Decidable.not_not.1 hw)
    cases hd : dist l1 a2 l0 with
    | none => simp
    | some d =>
      have := dist_lt (by omega) hd ho
      simp [planS_length d l0 hd]
      omega
theorem plan_f (l0 l1 : List Int) (a2 : Int) (l3 : List S43) (hm : l3.length ≤ 9223372036854775807) : ∃ k, tapestrylaw13_PassesPlan.f k l0 l1 a2 l3 = some true := by
  have hs := planR_short l0 l1 a2
  refine ⟨2 * l3.length + 300000, ?_⟩
  unfold tapestrylaw13_PassesPlan.f
  rw [wrong_f l0 l1 a2 _ (by omega), rwrong_f l0 l1 a2 _ (by omega)]
  simp only [Option.bind_some, if_true, passes_Plan.f, tapestryref13_Plan.f]
  rw [rSame_f _ (by omega) _ (by omega)]
  simp only [Option.bind_some, if_true, bne_self_eq_false]
  show tapestrylaw13_PassesPlan.j0 ((2 * l3.length + 299999) + 1) l0 l1 a2 l3 false = some true
  simp only [tapestrylaw13_PassesPlan.j0]
  rw [check_f l0 l1 a2 l3 hm _ (by omega), rcheck_f l0 l1 a2 l3 hm _ (by omega)]
  simp
theorem walkPlan (a0 : Option Addr) (len0 cap0 : Nat) (z0 : List Int) (a1 : Option Addr) (len1 cap1 : Nat) (z1 : List Int) (a2 : Int) (a3 : Option Addr) (cap3 : Nat) (l3 : List S43) (w : World) (w0 : (a0 = none ∧ len0 = 0 ∧ cap0 = 0 ∧ z0 = []) ∨ ∃ x, a0 = some x ∧ len0 ≤ cap0 ∧ cap0 ≤ maxLen ∧ z0.length = cap0 ∧ (∀ i, i < z0.length → w.cell? (x.add i) = some (.int .i64 (z0.getD i 0))) ∧ ∀ n ∈ z0, (Lit.int .i64 n).wf = true) (y0 : len0 * 8 ≤ 140737488351232) (w1 : (a1 = none ∧ len1 = 0 ∧ cap1 = 0 ∧ z1 = []) ∨ ∃ x, a1 = some x ∧ len1 ≤ cap1 ∧ cap1 ≤ maxLen ∧ z1.length = cap1 ∧ (∀ i, i < z1.length → w.cell? (x.add i) = some (.int .i64 (z1.getD i 0))) ∧ ∀ n ∈ z1, (Lit.int .i64 n).wf = true) (y1 : len1 * 8 ≤ 140737488351232) (w2 : (Lit.int .i64 a2).wf = true) (w3 : Kd.C k43 w a3 l3.length l3) (m3 : l3.length ≤ cap3) (b3 : l3.length ≤ 9223372036854775807) :
    Calls Try.prog 4 #[.slice a0 len0 cap0, .slice a1 len1 cap1, .int .i64 a2, .slice a3 l3.length cap3] w fun e w' => e = .returned (.bool true) ∧ Below w.heap.size w w' := by
  obtain ⟨l0, rfl, hr0, hm0, hw0, hc0⟩ := ReadsInt.ofRowC w0
  obtain ⟨l1, rfl, hr1, hm1, hw1, hc1⟩ := ReadsInt.ofRowC w1
  obtain ⟨k, h⟩ := plan_f l0 l1 a2 l3 b3
  refine (tapestrylaw13_PassesPlan.calls k _ _ l0 _ _ l1 a2 _ _ l3 true w (Kd.C_of_reads (d := (0 : Int)) (h1 := fun _ => rfl) hr0) hc0 (Kd.C_of_reads (d := (0 : Int)) (h1 := fun _ => rfl) hr1) hc1 w3 m3 h).mono ?_
  rintro e w' ⟨rfl, hd⟩
  exact ⟨rfl, hd⟩
end Go.Proofs.Ytehchpjjcohecaa.Pure
