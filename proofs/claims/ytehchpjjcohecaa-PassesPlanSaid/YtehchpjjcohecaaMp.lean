import Derived.Maps.Own
import Derived.Maps.OwnSet
import Derived.Maps.OwnIn
import Derived.Maps.Views
import Derived.Below
/- A map to whole numbers that a call has made, seen as a function of its keys. -/
namespace Go.Proofs.Ytehchpjjcohecaa.X
open Go.RowKit Go.Maps Go.WideMaps Go.WideElems
set_option linter.unusedVariables false

def MapL (P : Program) (kt et : TypeId) (w : World) (b n : Nat) (f : Lit → Option Int) : Prop :=
  ∃ D : DataW Unit, w.ownsMap P kt (plainElem P et) b n D ∧ ∀ k, WideAt.IsKeyLit k → Maps.has D k = (f k).isSome ∧ ∀ v, f k = some v → D.atKey k (.lit (.int .i64 0)) = .lit (.int .i64 v)

section
variable {P : Program} {kt et t : TypeId} {w w' : World} {b n : Nat} {f : Lit → Option Int}
theorem MapL.made (w : World) (P : Program) (kt et : TypeId) : MapL P kt et (w.alloc (.map #[] 0)) w.heap.size 0 (fun _ => none) :=
  ⟨.map [], World.ownsMap_made w P kt _, fun k hk => ⟨rfl, fun v h => by cases h⟩⟩
theorem MapL.kept {row : Option Nat} (h : MapL P kt et w b n f) (hg : w.grownBy w' row) (hne : some b ≠ row) : MapL P kt et w' b n f := by
  obtain ⟨D, h1, h2⟩ := h
  exact ⟨D, h1.kept hg hne, h2⟩
theorem MapL.block (h : MapL P kt et w b n f) : ∃ es ck, w.heap[b]? = some (.map es ck) := by
  obtain ⟨D, ⟨es, ck, hb, _⟩, _⟩ := h
  exact ⟨es, ck, hb⟩
theorem MapL.same (h : MapL P kt et w b n f) (hs : w'.heap[b]? = w.heap[b]?) : MapL P kt et w' b n f := by
  obtain ⟨D, ⟨es, ck, hb, r⟩, h2⟩ := h
  exact ⟨D, ⟨es, ck, hs.trans hb, r⟩, h2⟩
theorem MapL.lt (h : MapL P kt et w b n f) : b < w.heap.size := by
  obtain ⟨D, h1, _⟩ := h
  exact h1.lt
theorem MapL.look (h : MapL P kt et w b n f) (K : Keyed P kt) (ht : P.underlying t = some (.map kt et)) (he : P.underlying et = some (.int .i64)) (hz : (zeroValue et).run P w = .ok (.int .i64 0) w)
    {key : Value} {kl : Lit} (hkey : keyOf P kt key = some kl) (hl : WideAt.IsKeyLit kl) : (Instr.lookup t (.map (some b)) key true).run P w = .ok (.tuple #[.int .i64 ((f kl).getD 0), .bool (f kl).isSome]) w := by
  obtain ⟨D, h1, h2⟩ := h
  obtain ⟨v, ps, hrun, hv⟩ := h1.look_ok K ht hz (plainElem_int he (by decide)) hkey
  obtain ⟨hh, ha⟩ := h2 kl hl
  rw [hrun, hh]
  obtain ⟨a, rfl, hc, hwc⟩ := plainElem_int_inv he hv
  simp only [Prod.mk.injEq] at hc
  cases e : f kl with
  | none =>
    have h0 : Maps.has D kl = false := by rw [hh, e]; rfl
    rw [Maps.atKey_of_not_has h0] at hc
    simp at hc
    simp [hc.1.symm]
  | some v =>
    rw [ha v e] at hc
    simp at hc
    simp [hc.1.symm]
theorem MapL.look1 (h : MapL P kt et w b n f) (K : Keyed P kt) (ht : P.underlying t = some (.map kt et)) (he : P.underlying et = some (.int .i64)) (hz : (zeroValue et).run P w = .ok (.int .i64 0) w)
    {key : Value} {kl : Lit} (hkey : keyOf P kt key = some kl) (hl : WideAt.IsKeyLit kl) : (Instr.lookup t (.map (some b)) key false).run P w = .ok (.int .i64 ((f kl).getD 0)) w := by
  obtain ⟨D, h1, h2⟩ := h
  obtain ⟨c, hrun, hc, hwc⟩ := h1.lookup_int K ht he hz hkey
  obtain ⟨hh, ha⟩ := h2 kl hl
  rw [hrun]
  cases e : f kl with
  | none =>
    have h0 : Maps.has D kl = false := by rw [hh, e]; rfl
    rw [Maps.atKey_of_not_has h0] at hc
    simp at hc
    simp [hc.symm]
  | some v =>
    rw [ha v e] at hc
    simp at hc
    simp [hc.symm]
open Classical in
noncomputable def updL (f : Lit → Option Int) (kl : Lit) (v : Int) : Lit → Option Int := fun k => if k = kl then some v else f k
theorem MapL.update (h : MapL P kt et w b n f) (K : Keyed P kt) (ht : P.underlying t = some (.map kt et)) (he : P.underlying et = some (.int .i64)) (hn : n < maxLen) {key : Value} {kl : Lit} (v : Int)
    (hkey : keyOf P kt key = some kl) (hl : WideAt.IsKeyLit kl) (hv : (Lit.int .i64 v).wf = true) :
    ∃ w', (Instr.mapUpdate t (.map (some b)) key (.int .i64 v)).run P w = .ok () w' ∧ MapL P kt et w' b (n + 1) (updL f kl v) ∧ w.grownBy w' (some b) := by
  obtain ⟨D, h1, h2⟩ := h
  have hm := h1.isMap
  obtain ⟨w', hrun, h3, hg⟩ := h1.update K ht hn hkey (plainElem_int he hv)
  refine ⟨w', hrun, ⟨_, h3, fun k hk => ?_⟩, hg⟩
  by_cases e : k = kl
  · subst e
    refine ⟨?_, fun v' h' => ?_⟩
    · rw [Maps.has_put_same hm hl]; simp [updL]
    · rw [Maps.atKey_put_same hm hl]; simp [updL] at h'; rw [h']
  · obtain ⟨hh, ha⟩ := h2 k hk
    refine ⟨?_, fun v' h' => ?_⟩
    · rw [Maps.has_put_other e, hh]; simp [updL, e]
    · rw [Maps.atKey_put_other e]; simp [updL, e] at h'; exact ha v' h'
end
end Go.Proofs.Ytehchpjjcohecaa.X
