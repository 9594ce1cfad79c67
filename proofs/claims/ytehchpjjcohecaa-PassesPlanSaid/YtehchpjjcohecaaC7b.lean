import Derived.Test.YtehchpjjcohecaaC7a
/- One pass is found: what passes.Plan writes then. -/
namespace Go.Proofs.Ytehchpjjcohecaa.X
open Go.RowKit Go.Shelf Go.Proofs.YtehchpjjcohecaaW.PrintWords Go.Proofs.YtehchpjjcohecaaW.PrintLast Go.Proofs.YtehchpjjcohecaaW.PrintMore
set_option linter.unusedVariables false
set_option linter.unusedSimpArgs false
section
variable {w : World} {g9 g10 M g11 g13 : Nat} {A1 : Option Addr} {c1 : Nat} {tol : List Int} {slack : Int} {cnt : Nat} {f : Lit → Option Int} {left : Int} {acc : List S43} {W : World}
theorem PlanW.push (h : PlanW w g9 g10 M g11 g13 A1 c1 tol slack cnt f left acc W) {v : Value} (hv : W.heap[g13]? = some (.cells #[v] 24 (0, 0))) (x : Int × Int) {g14 n n' xc c7 : Nat} {xA A7 : Option Addr} {s nxt : List Int} {Ds : List Nat}
    (hA : AtW w g11 g14 xA n xc s W) (hS : SeesE w.heap.size g11 W (A7, n', c7) nxt) (hD : Marks w.heap.size W Ds) (h13 : w.heap.size ≤ g13) (h1314 : g13 < g14) (hl : acc.length + 1 ≤ 300000) :
    ∃ v1 w1, (∃ A6 n6 c6, v1 = .slice A6 n6 c6) ∧ (Builtin.append_ #[24, 24] 24 #[v, .slice (some ⟨W.heap.size, 0, none⟩) 1 1]).run Try.prog (W.alloc (.cells #[.int .i64 x.1, .int .i64 x.2] 43)) = .ok v1 w1 ∧
      w1.heap[g13]? = some (.cells #[v] 24 (0, 0)) ∧ w1.heap[g14]? = some (.cells #[.slice xA n xc] 22 (0, 0)) ∧
      ∀ W2, W2 = (w1.setCell ⟨g13, 0, none⟩ v1).setCell ⟨g14, 0, none⟩ (.slice A7 n' c7) →
        (∀ B', KeepsFrom B' W W2) ∧ PlanW w g9 g10 M g11 g13 A1 c1 tol slack cnt f left (acc ++ [toP x]) W2 ∧ AtW w g11 g14 A7 n' c7 nxt W2 ∧ Marks w.heap.size W2 Ds := by
  obtain ⟨h1, h2, h3, h4, h5, v0, h6, h7⟩ := h
  obtain rfl : v = v0 := by rw [h6] at hv; cases hv; rfl
  obtain ⟨v1, w1, hrun, hR, hB, hg, hat⟩ := R_run (P := Try.prog) k43 (w0 := w) (W := W) w.heap.size 24 24 43 _ 16 Try.underlying24 info43 rfl (by decide) (by decide) v acc (toP x) [.int .i64 x.1, .int .i64 x.2] (fun _ => True) (fun _ => False) (k43_mkM W _ _ (toP x)) (fun _ h => h.elim) (fun _ _ => trivial) h7 h1 h1.size (by omega)
  have keep : ∀ (k : Nat) (o : Obj), W.heap[k]? = some o → (∀ cells, o ≠ .cells cells 43 (0, 0)) → w1.heap[k]? = W.heap[k]? := fun k o e hne =>
    hg.block k (heap_lt e) (fun e2 => by
      obtain ⟨cells, hc⟩ := Kd.R_typed h7 k e2.symm
      rw [hc] at e
      cases e
      exact hne cells rfl)
  have k13 := (keep _ _ hv (fun _ => by simp)).trans hv
  have k14 := (keep _ _ hA.1 (fun _ => by simp)).trans hA.1
  obtain ⟨A6, c6, hv6, _⟩ := Kd.R_reads hR
  refine ⟨v1, w1, ⟨A6, _, c6, hv6⟩, hrun, k13, k14, ?_⟩
  rintro W2 rfl
  have sc : ∀ (k : Nat), k ≠ g13 → k ≠ g14 → ((w1.setCell ⟨g13, 0, none⟩ v1).setCell ⟨g14, 0, none⟩ (.slice A7 n' c7)).heap[k]? = w1.heap[k]? := fun k a b => (Below.heap_setCell _ _ _ k b).trans (Below.heap_setCell _ _ _ k a)
  have ne : ∀ (k : Nat) (o : Obj), w1.heap[k]? = some o → (∀ cells, o ≠ .cells cells 24 (0, 0)) → (∀ cells, o ≠ .cells cells 22 (0, 0)) → k ≠ g13 ∧ k ≠ g14 := fun k o e a b =>
    ⟨by rintro rfl; rw [k13] at e; cases e; exact a _ rfl, by rintro rfl; rw [k14] at e; cases e; exact b _ rfl⟩
  have all : ∀ (k : Nat) (o : Obj), W.heap[k]? = some o → (∀ cells, o ≠ .cells cells 43 (0, 0)) → (∀ cells, o ≠ .cells cells 24 (0, 0)) → (∀ cells, o ≠ .cells cells 22 (0, 0)) → ((w1.setCell ⟨g13, 0, none⟩ v1).setCell ⟨g14, 0, none⟩ (.slice A7 n' c7)).heap[k]? = W.heap[k]? := fun k o e a b c => by
    have e1 := (keep k o e a)
    obtain ⟨p, q⟩ := ne k o (e1.trans e) b c
    exact (sc k p q).trans e1
  have hsz : ((w1.setCell ⟨g13, 0, none⟩ v1).setCell ⟨g14, 0, none⟩ (.slice A7 n' c7)).heap.size = w1.heap.size := by simp
  have hs1 : W.heap.size ≤ w1.heap.size := hg.size
  have hB2 : Below w.heap.size w ((w1.setCell ⟨g13, 0, none⟩ v1).setCell ⟨g14, 0, none⟩ (.slice A7 n' c7)) := (hB.setCell (by exact h13) _).setCell (by show w.heap.size ≤ g14; omega) _
  obtain ⟨es, ck, hMb⟩ := h4.block
  have e13 : ((w1.setCell ⟨g13, 0, none⟩ v1).setCell ⟨g14, 0, none⟩ (.slice A7 n' c7)).heap[g13]? = some (.cells #[v1] 24 (0, 0)) := (Below.heap_setCell _ _ _ g13 (by show g13 ≠ g14; omega)).trans (blk_put k13 0 _ rfl)
  have e14 : ((w1.setCell ⟨g13, 0, none⟩ v1).setCell ⟨g14, 0, none⟩ (.slice A7 n' c7)).heap[g14]? = some (.cells #[.slice A7 n' c7] 22 (0, 0)) := blk_put ((Below.heap_setCell _ _ _ g14 (by show g14 ≠ g13; omega)).trans k14) 0 _ rfl
  refine ⟨fun B' => ⟨by omega, fun k o _ ho hc => (all k o ho (fun cells e => by subst e; cases hc) (fun cells e => by subst e; cases hc) (fun cells e => by subst e; cases hc)).trans ho⟩,
    ⟨hB2, (all _ _ h2 (by simp) (by simp) (by simp)).trans h2, (all _ _ h3 (by simp) (by simp) (by simp)).trans h3, h4.same (all _ _ hMb (by simp) (by simp) (by simp)), (all _ _ h5 (by simp) (by simp) (by simp)).trans h5, v1, e13, ?_⟩, ⟨e14, ?_⟩, ?_⟩
  · refine Kd.R_mono (Kd.R_move (Kd.R_bound hR) (fun k hk' => ?_)) (fun k hk' => trivial)
    obtain ⟨_, _, _, q, hq, cells, e⟩ := hk'
    have := k43_E q hq
    subst this
    obtain ⟨p, q⟩ := ne k _ e (by simp) (by simp)
    exact sc k p q
  · refine hS.move (by omega) (fun k hk hk2 => ?_)
    rcases hk2 with hk2 | ⟨_, cells, e⟩
    · have e1 : w1.heap[k]? = W.heap[k]? := hg.block k hk (fun e2 => by have := Kd.R_base h7 k e2.symm; omega)
      exact (sc k (by omega) (by omega)).trans e1
    · exact all k _ e (by simp) (by simp) (by simp)
  · exact hD.move (fun D hDm => all D _ (hD.2 D hDm).2 (by simp) (by simp) (by simp))
theorem PlanW.dec (h : PlanW w g9 g10 M g11 g13 A1 c1 tol slack cnt f left acc W) (h11 : w.heap.size ≤ g11) (left' : Int) : PlanW w g9 g10 M g11 g13 A1 c1 tol slack cnt f left' acc (W.setCell ⟨g11, 0, none⟩ (.int .i64 left')) := by
  obtain ⟨h1, h2, h3, h4, h5, v, h6, h7⟩ := h
  obtain ⟨es, ck, hMb⟩ := h4.block
  have sc : ∀ (k : Nat) (o : Obj), W.heap[k]? = some o → (∀ cells, o ≠ .cells cells 3 (0, 0)) → (W.setCell ⟨g11, 0, none⟩ (.int .i64 left')).heap[k]? = W.heap[k]? := fun k o e hne =>
    Below.heap_setCell _ _ _ k (by rintro rfl; rw [h5] at e; cases e; exact hne _ rfl)
  refine ⟨h1.setCell h11 _, (sc _ _ h2 (by simp)).trans h2, (sc _ _ h3 (by simp)).trans h3, h4.same (sc _ _ hMb (by simp)), blk_put h5 0 _ rfl, v, (sc _ _ h6 (by simp)).trans h6, ?_⟩
  refine Kd.R_mono (Kd.R_move (Kd.R_bound h7) (fun k hk' => ?_)) (fun k hk' => trivial)
  obtain ⟨_, _, _, q, hq, cells, e⟩ := hk'
  have := k43_E q hq
  subst this
  exact sc k _ e (by simp)
theorem AtW.dec {g14 n xc : Nat} {xA : Option Addr} {s : List Int} {u0 : Value} (h : AtW w g11 g14 xA n xc s W) (h11 : w.heap.size ≤ g11) (hg : W.heap[g11]? = some (.cells #[u0] 3 (0, 0))) (u : Value) : AtW w g11 g14 xA n xc s (W.setCell ⟨g11, 0, none⟩ u) := by
  refine ⟨(Below.heap_setCell _ _ _ _ (by rintro rfl; have e := h.1; rw [hg] at e; cases e)).trans h.1, h.2.move (by simp) (fun k hk hk2 => Below.heap_setCell _ _ _ k ?_)⟩
  rcases hk2 with hk2 | ⟨hk2, _⟩
  · show k ≠ g11
    omega
  · exact hk2
theorem Marks.dec {Ds : List Nat} {u0 : Value} {B : Nat} (h : Marks B W Ds) (hg : W.heap[g11]? = some (.cells #[u0] 3 (0, 0))) (u : Value) : Marks B (W.setCell ⟨g11, 0, none⟩ u) Ds :=
  h.move (fun D hD => Below.heap_setCell _ _ _ _ (by rintro rfl; have e := (h.2 D hD).2; rw [hg] at e; cases e))
end
end Go.Proofs.Ytehchpjjcohecaa.X
