import Derived.Test.YtehchpjjcohecaaX0
import Derived.Deep.SlicePairs
/- A row of passes that was handed over. -/
namespace Go.Proofs.Ytehchpjjcohecaa.X
open Go.RowKit Go.ChangeShapes Go.Deep Go.Proofs.YtehchpjjcohecaaW.PrintWords Go.Proofs.YtehchpjjcohecaaW.PrintLast
set_option linter.unusedVariables false
set_option linter.unusedSimpArgs false
def numV : Value → Int
  | .int _ n => n
  | _ => 0
theorem pairs_row {H : Type} {enc : TypeId × Value → H} {W : World} {a : Option Addr} {len cap fuel : Nat} {x : DataW H × List MemPlace} {spare : Nat → Bool} {base : Nat}
    (h : DataW.trod enc Try.prog W base spare true fuel 24 (Value.slice a len cap).cells.toList = some x) : ∃ l : List S43, Kd.C k43 W a len l ∧ l.length = len ∧ len ≤ cap := by
  rcases open_slice_pairs Try.underlying24 Try.underlying43 (by kernel_rfl) rfl rfl (by kernel_rfl) (by kernel_rfl) h with ⟨hcs, _⟩ | ⟨ad, l, c, m, n, V0, V1, D0, D1, P0, P1, hcs, _, hl, hm, hmm, _, hx⟩
  · simp [Value.cells] at hcs
    obtain ⟨rfl, rfl, rfl⟩ := hcs
    exact ⟨[], ⟨rfl, by omega, fun h => absurd h (by omega)⟩, rfl, Nat.le_refl _⟩
  · simp [Value.cells] at hcs
    obtain ⟨rfl, rfl, rfl⟩ := hcs
    have hlm : len ≤ m := by rw [hmm]; split <;> omega
    refine ⟨(List.range len).map fun i => ⟨numV (V0 i), numV (V1 i)⟩, ⟨by simp, by have : maxLen = 9223372036854775807 := by decide
                                                                                   omega, fun _ => ⟨ad, rfl, fun j p hj => ?_⟩⟩, by simp, hl⟩
    obtain ⟨hj1, hj2⟩ := List.getElem?_eq_some_iff.1 hj
    have hjl : j < len := by simpa using hj1
    have hp : p = ⟨numV (V0 j), numV (V1 j)⟩ := by rw [← hj2]; simp
    obtain ⟨c0, c1, t0, t1⟩ := hx j (by omega)
    obtain ⟨n0, e0, _, _⟩ := DataW.trod_int Try.underlying3 t0
    obtain ⟨n1, e1, _, _⟩ := DataW.trod_int Try.underlying3 t1
    simp only [List.cons.injEq, and_true] at e0 e1
    rw [e0] at c0
    rw [e1] at c1
    refine ⟨[.int .i64 p.f0, .int .i64 p.f1], rfl, k43_mk W p, fun i u hu => ?_⟩
    subst hp
    rcases i with _ | _ | i
    · simp at hu
      subst hu
      show W.cell? (ad.add (j * 2)) = _
      rw [c0, e0]
      rfl
    · simp at hu
      subst hu
      show W.cell? (ad.add (j * 2 + 1)) = _
      rw [c1, e1]
      rfl
    · simp at hu
end Go.Proofs.Ytehchpjjcohecaa.X
