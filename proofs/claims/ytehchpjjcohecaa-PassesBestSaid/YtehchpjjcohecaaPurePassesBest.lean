import Derived.Test.YtehchpjjcohecaaXF5
import Derived.Test.YtehchpjjcohecaaM6
import Derived.Test.YtehchpjjcohecaaPurePassesMirrored
/- PassesBest's plain law. -/
namespace Go.Proofs.Ytehchpjjcohecaa.Pure
open Go.RowKit Go.Proofs.Ytehchpjjcohecaa.X Go.Proofs.YtehchpjjcohecaaW.PrintWords Go.Proofs.YtehchpjjcohecaaW.PrintLast
set_option linter.unusedSimpArgs false

theorem best_f (l0 l1 : List Int) (a2 : Int) (l3 : List S43) (hm : l3.length ≤ 9223372036854775807) : ∃ k, tapestrylaw13_PassesBest.f k l0 l1 a2 l3 = some true := by
  by_cases hw : wrongS l0 l1 a2 = 0
  · obtain ⟨h1, h5, hl, _, _, ho, _⟩ := wrong_ok hw
    have hc : checkR l0 l1 a2 l3 = (checkS l1 a2 l3 l0, 0) := by unfold checkR; rw [if_pos hw]
    cases hd : dist l1 a2 l0 with
    | none =>
      refine ⟨2 * l3.length + 101, ?_⟩
      have hp : planR l0 l1 a2 = ([], 6) := by unfold planR; rw [if_neg (by simp [hw]), hd]
      have hcf : checkS l1 a2 l3 l0 = false := by
        cases hb : checkS l1 a2 l3 l0 with
        | false => rfl
        | true => exact absurd (check_rch l3 l0 hl hb) (dist_none hd _)
      unfold tapestrylaw13_PassesBest.f
      rw [alive_f]
      simp [passes_Plan.f, hp, check_f l0 l1 a2 l3 hm _ (Nat.lt_succ_self _), hc, hcf]
    | some d =>
      have hp : planR l0 l1 a2 = ((planS l1 a2 d l0).map toP, 0) := by unfold planR; rw [if_neg (by simp [hw]), hd]
      have hpl : ((planS l1 a2 d l0).map toP).length = d := by rw [List.length_map, planS_length d l0 hd]
      have hcp := check_plan d l0 hd
      generalize (planS l1 a2 d l0).map toP = pl at hp hpl hcp
      have hmp : pl.length ≤ 9223372036854775807 ∨ ¬ pl.length ≤ 9223372036854775807 := by omega
      have hdb : d < 248832 := dist_lt (by omega) hd ho
      have hc2 : checkR l0 l1 a2 pl = (true, 0) := by unfold checkR; rw [if_pos hw, hcp]
      refine ⟨2 * l3.length + 2 * pl.length + 101, ?_⟩
      unfold tapestrylaw13_PassesBest.f
      rw [alive_f]
      simp only [passes_Plan.f, hp, check_f l0 l1 a2 l3 hm _ (show 2 * l3.length + 100 < 2 * l3.length + 2 * pl.length + 101 by omega), check_f l0 l1 a2 pl (by omega) _ (show 2 * pl.length + 100 < 2 * l3.length + 2 * pl.length + 101 by omega), hc, hc2, Option.bind_some, if_true]
      cases hb : checkS l1 a2 l3 l0 with
      | false => simp
      | true =>
        have := (dist_some hd).2 _ (check_rch l3 l0 hl hb)
        simp
        omega
  · have hp : planR l0 l1 a2 = ([], wrongS l0 l1 a2) := by unfold planR; rw [if_pos hw]
    have hc : checkR l0 l1 a2 l3 = (false, wrongS l0 l1 a2) := by unfold checkR; rw [if_neg hw]
    refine ⟨2 * l3.length + 101, ?_⟩
    unfold tapestrylaw13_PassesBest.f
    rw [alive_f]
    simp [passes_Plan.f, hp, check_f l0 l1 a2 l3 hm _ (Nat.lt_succ_self _), hc, hw]
theorem walkBest (a0 : Option Addr) (len0 cap0 : Nat) (z0 : List Int) (a1 : Option Addr) (len1 cap1 : Nat) (z1 : List Int) (a2 : Int) (a3 : Option Addr) (cap3 : Nat) (l3 : List S43) (w : World) (w0 : (a0 = none ∧ len0 = 0 ∧ cap0 = 0 ∧ z0 = []) ∨ ∃ x, a0 = some x ∧ len0 ≤ cap0 ∧ cap0 ≤ maxLen ∧ z0.length = cap0 ∧ (∀ i, i < z0.length → w.cell? (x.add i) = some (.int .i64 (z0.getD i 0))) ∧ ∀ n ∈ z0, (Lit.int .i64 n).wf = true) (y0 : len0 * 8 ≤ 140737488351232) (w1 : (a1 = none ∧ len1 = 0 ∧ cap1 = 0 ∧ z1 = []) ∨ ∃ x, a1 = some x ∧ len1 ≤ cap1 ∧ cap1 ≤ maxLen ∧ z1.length = cap1 ∧ (∀ i, i < z1.length → w.cell? (x.add i) = some (.int .i64 (z1.getD i 0))) ∧ ∀ n ∈ z1, (Lit.int .i64 n).wf = true) (y1 : len1 * 8 ≤ 140737488351232) (w2 : (Lit.int .i64 a2).wf = true) (w3 : Kd.C k43 w a3 l3.length l3) (m3 : l3.length ≤ cap3) (b3 : l3.length ≤ 9223372036854775807) :
    Calls Try.prog 5 #[.slice a0 len0 cap0, .slice a1 len1 cap1, .int .i64 a2, .slice a3 l3.length cap3] w fun e w' => e = .returned (.bool true) ∧ Below w.heap.size w w' := by
  obtain ⟨l0, rfl, hr0, hm0, hw0, hc0⟩ := ReadsInt.ofRowC w0
  obtain ⟨l1, rfl, hr1, hm1, hw1, hc1⟩ := ReadsInt.ofRowC w1
  obtain ⟨k, h⟩ := best_f l0 l1 a2 l3 b3
  refine (tapestrylaw13_PassesBest.calls k _ _ l0 _ _ l1 a2 _ _ l3 true w (Kd.C_of_reads (d := (0 : Int)) (h1 := fun _ => rfl) hr0) hc0 (Kd.C_of_reads (d := (0 : Int)) (h1 := fun _ => rfl) hr1) hc1 w3 m3 h).mono ?_
  rintro e w' ⟨rfl, hd⟩
  exact ⟨rfl, hd⟩
end Go.Proofs.Ytehchpjjcohecaa.Pure
