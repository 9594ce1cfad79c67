import Derived.Test.YtehchpjjcohecaaC14
import Derived.Test.YtehchpjjcohecaaM4
/- What lies in memory while passes.Plan goes on. -/
namespace Go.Proofs.Ytehchpjjcohecaa.X
open Go.RowKit Go.Shelf Go.Proofs.YtehchpjjcohecaaW.PrintWords Go.Proofs.YtehchpjjcohecaaW.PrintLast Go.Proofs.YtehchpjjcohecaaW.PrintMore
set_option linter.unusedVariables false
set_option linter.unusedSimpArgs false

/-- What an append of one element to a row of one's own comes to. -/
theorem R_run {P : Program} {α : Type} (d : Kd α) {w0 W : World} (base : Nat) (t ty e : TypeId) (z : Value) (bytes : Nat)
    (ht : P.underlying t = some (.slice e)) (hinfo : (P.info? e).map (fun i => (i.zero, i.size, i.bytes)) = some (some z, d.sz, bytes)) (hz : z.cells.size = d.sz) (hs0 : 0 < d.sz) (hb0 : 0 < bytes)
    (v : Value) (xs : List α) (p : α) (cs : List Value) (ok okp : Nat → Prop) (hp : d.M W base okp p cs) (hokp : ∀ k, okp k → ok k ∧ some k ≠ v.ownBlock) (hfresh : ∀ k, W.heap.size ≤ k → ok k)
    (HO : d.R e W base ok v xs) (HB : Below base w0 W) (hbase : base ≤ W.heap.size) (hl : (xs.length + 1) * bytes ≤ 140737488355328) :
    ∃ v1 w1, (Builtin.append_ #[t, t] ty #[v, .slice (some ⟨W.heap.size, 0, none⟩) 1 1]).run P (W.alloc (.cells cs.toArray e)) = .ok v1 w1 ∧ d.R e w1 base ok v1 (xs ++ [p]) ∧ Below base w0 w1 ∧ W.grownBy w1 v.ownBlock ∧ (v1.ownBlock = v.ownBlock ∨ ∃ b, v1.ownBlock = some b ∧ W.heap.size ≤ b) := by
  obtain ⟨h0, inner, hown, hr⟩ := HO
  obtain ⟨i0, hi, hzz⟩ := Option.map_eq_some_iff.1 hinfo
  simp only [Prod.mk.injEq] at hzz
  obtain ⟨hz0, hz1, hz2⟩ := hzz
  have hlen : xs.length + 1 ≤ 140737488355328 := Nat.le_trans (Nat.le_mul_of_pos_right _ hb0) hl
  have hcl := d.K_len (d.K_of_M hp)
  obtain ⟨v1, w1, hrun, hq1, hg1, _, hat⟩ := run_append_own_at (P := P) (W.alloc (.cells cs.toArray e)) base t ty e i0 z d.sz bytes ht hi hz0 hz1 hz2 hz hs0 v xs.length inner (hown.alloc _) ⟨W.heap.size, 0, none⟩ 1 1 cs (by rw [hcl, Nat.one_mul])
    (by simpa using World.news_of_block (cs := cs.toArray) (t := e) (fr := (0, 0)) (heap_alloc_new W (.cells cs.toArray e))) (d.K_one (d.K_of_M hp)) (by simp only [maxLen]; omega) hl (by simp; omega)
  have hg : W.grownBy w1 v.ownBlock := World.grownBy.trans (World.grownBy_alloc W _ _) hg1
  have hat' : v1.ownBlock = v.ownBlock ∨ ∃ b, v1.ownBlock = some b ∧ W.heap.size ≤ b := by
    rcases hat with hat | hat
    · exact .inl hat
    · exact .inr ⟨_, hat, by simp⟩
  exact ⟨v1, w1, hrun, Kd.R_appended h0 hr hp hokp hfresh hq1 hg hat', (HB.alloc hbase _).grown hg1 (by simp; omega) (own_base hown), hg, hat'⟩
/-- A slice of whole numbers in blocks below B, or of whole numbers, but ex. -/
def SeesE (B ex : Nat) (W : World) (x : SV) (l : List Int) : Prop :=
  x.2.1 = l.length ∧ l.length ≤ x.2.2 ∧ ∃ S : Nat → Prop, (∀ k, S k → k < W.heap.size ∧ (k < B ∨ k ≠ ex ∧ ∃ cells, W.heap[k]? = some (.cells cells 3 (0, 0)))) ∧ ∀ W' : World, (∀ k, S k → W'.heap[k]? = W.heap[k]?) → Kd.C (Kd.int .i64) W' x.1 l.length l
theorem SeesE.C {B ex : Nat} {W : World} {x : SV} {l : List Int} (h : SeesE B ex W x l) : Kd.C (Kd.int .i64) W x.1 l.length l := by
  obtain ⟨_, _, S, _, h⟩ := h
  exact h W (fun _ _ => rfl)
theorem SeesE.move {B ex : Nat} {W W1 : World} {x : SV} {l : List Int} (h : SeesE B ex W x l) (hs : W.heap.size ≤ W1.heap.size) (hk : ∀ k, k < W.heap.size → (k < B ∨ k ≠ ex ∧ ∃ cells, W.heap[k]? = some (.cells cells 3 (0, 0))) → W1.heap[k]? = W.heap[k]?) : SeesE B ex W1 x l := by
  obtain ⟨h1, h2, S, hS, h3⟩ := h
  have he : ∀ k, S k → W1.heap[k]? = W.heap[k]? := fun k hk' => hk k (hS k hk').1 (hS k hk').2
  refine ⟨h1, h2, S, fun k hk' => ?_, fun W' hW' => h3 W' (fun k hk' => (hW' k hk').trans (he k hk'))⟩
  obtain ⟨a, b⟩ := hS k hk'
  exact ⟨by omega, by rw [he k hk']; exact b⟩
theorem SeesE.below {B ex : Nat} {W W1 : World} {x : SV} {l : List Int} (h : SeesE B ex W x l) (hb : Below W.heap.size W W1) : SeesE B ex W1 x l := h.move hb.size (fun k hk _ => hb.block k hk)
theorem SeesE.ofC {w W : World} {A : Option Addr} {c ex : Nat} {l : List Int} (h : Kd.C (Kd.int .i64) w A l.length l) (hc : l.length ≤ c) (hB : Below w.heap.size w W) : SeesE w.heap.size ex W (A, l.length, c) l :=
  ⟨rfl, hc, fun k => k < w.heap.size, fun k hk => ⟨Nat.lt_of_lt_of_le hk hB.size, .inl hk⟩, fun W' hW' => C_blocks h (fun k hk => (hW' k hk).trans (hB.block k hk))⟩
theorem SeesE.ofR {W : World} {B ex base : Nat} {ok : Nat → Prop} {v : Value} {l : List Int} (h : Kd.R (Kd.int .i64) 3 W base ok v l) (hex : ex < base) : ∃ A c, v = .slice A l.length c ∧ SeesE B ex W (A, l.length, c) l := by
  obtain ⟨A, c, rfl, hl, hC⟩ := Kd.R_reads h
  refine ⟨A, c, rfl, rfl, hl, fun k => (Value.slice A l.length c).ownBlock = some k, fun k hk => ⟨Kd.R_lt h k hk, .inr ⟨?_, ?_⟩⟩, fun W' hW' => ?_⟩
  · have := Kd.R_base h k hk; omega
  · obtain ⟨cells, hc⟩ := Kd.R_typed h k hk
    exact ⟨cells, hc⟩
  · have h0 : Kd.R (Kd.int .i64) 3 W base (fun k => (Value.slice A l.length c).ownBlock = some k) (.slice A l.length c) l := ⟨fun k hk => hk, h.2.imp_ (fun _ _ hp => hp)⟩
    exact (Kd.R_reads' (Kd.R_move h0 hW')).2.2

def PlanW (w : World) (g9 g10 M g11 g13 : Nat) (A1 : Option Addr) (c1 : Nat) (tol : List Int) (slack : Int) (cnt : Nat) (f : Lit → Option Int) (left : Int) (acc : List S43) (W : World) : Prop :=
  Below w.heap.size w W ∧ W.heap[g9]? = some (.cells #[.slice A1 tol.length c1, .int .i64 slack] 35 (0, 0)) ∧ W.heap[g10]? = some (.cells #[.map (some M)] 36 (0, 0)) ∧ MapL Try.prog 3 3 W M cnt f ∧
  W.heap[g11]? = some (.cells #[.int .i64 left] 3 (0, 0)) ∧ ∃ v, W.heap[g13]? = some (.cells #[v] 24 (0, 0)) ∧ Kd.R k43 43 W w.heap.size (fun _ => True) v acc
def AtW (w : World) (g11 g14 : Nat) (xA : Option Addr) (n xc : Nat) (s : List Int) (W : World) : Prop :=
  W.heap[g14]? = some (.cells #[.slice xA n xc] 22 (0, 0)) ∧ SeesE w.heap.size g11 W (xA, n, xc) s
theorem k43_E : ∀ q ∈ 43 :: k43.E, q = 43 := by
  intro q hq
  simp [k43, Kd.iso, Kd.pair, Kd.int, Kd.scalar] at hq
  exact hq
section
variable {w : World} {g9 g10 M g11 g13 : Nat} {A1 : Option Addr} {c1 : Nat} {tol : List Int} {slack : Int} {cnt : Nat} {f : Lit → Option Int} {left : Int} {acc : List S43} {W W1 : World}
theorem PlanW.move (h : PlanW w g9 g10 M g11 g13 A1 c1 tol slack cnt f left acc W) (hB : Below w.heap.size w W1)
    (hk : ∀ (k : Nat) (cells : Array Value) (t : Nat), W.heap[k]? = some (.cells cells t (0, 0)) → W1.heap[k]? = W.heap[k]?) (hm : W1.heap[M]? = W.heap[M]?) : PlanW w g9 g10 M g11 g13 A1 c1 tol slack cnt f left acc W1 := by
  obtain ⟨h1, h2, h3, h4, h5, v, h6, h7⟩ := h
  refine ⟨hB, (hk _ _ _ h2).trans h2, (hk _ _ _ h3).trans h3, h4.same hm, (hk _ _ _ h5).trans h5, v, (hk _ _ _ h6).trans h6, ?_⟩
  refine Kd.R_mono (Kd.R_move (Kd.R_bound h7) (fun k hk' => ?_)) (fun k hk' => trivial)
  obtain ⟨_, _, _, q, _, cells, e⟩ := hk'
  exact hk k cells q e
theorem PlanW.below (h : PlanW w g9 g10 M g11 g13 A1 c1 tol slack cnt f left acc W) (hb : Below W.heap.size W W1) : PlanW w g9 g10 M g11 g13 A1 c1 tol slack cnt f left acc W1 :=
  h.move (h.1.trans (hb.mono h.1.size)) (fun k _ _ e => hb.block k (heap_lt e)) (hb.block _ h.2.2.2.1.lt)
theorem noncells_keep {row : Option Nat} {B' : Nat} (hg : W.grownBy W1 row) (hr : ∀ r, row = some r → B' ≤ r ∧ ∃ o : Obj, W.heap[r]? = some o ∧ o.isCells = false) {k : Nat} {cells : Array Value} {t : Nat} (e : W.heap[k]? = some (.cells cells t (0, 0))) : W1.heap[k]? = W.heap[k]? :=
  hg.block k (heap_lt e) (fun e2 => by
    obtain ⟨_, o, ho, hoc⟩ := hr k e2.symm
    rw [e] at ho
    cases ho
    cases hoc)
theorem PlanW.noncells (h : PlanW w g9 g10 M g11 g13 A1 c1 tol slack cnt f left acc W) {row : Option Nat} {B' : Nat} (hg : W.grownBy W1 row) (hB : w.heap.size ≤ B') (hB' : M < B') (hr : ∀ r, row = some r → B' ≤ r ∧ ∃ o : Obj, W.heap[r]? = some o ∧ o.isCells = false) : PlanW w g9 g10 M g11 g13 A1 c1 tol slack cnt f left acc W1 :=
  h.move (h.1.grown hg h.1.size (fun k e => by have := (hr k e).1; omega)) (fun k _ _ e => noncells_keep hg hr e) (hg.block _ h.2.2.2.1.lt (fun e => by have := (hr _ e.symm).1; omega))
theorem AtW.noncells {g14 : Nat} {xA : Option Addr} {n xc : Nat} {s : List Int} (h : AtW w g11 g14 xA n xc s W) {row : Option Nat} {B' : Nat} (hg : W.grownBy W1 row) (hB : w.heap.size ≤ B') (hr : ∀ r, row = some r → B' ≤ r ∧ ∃ o : Obj, W.heap[r]? = some o ∧ o.isCells = false) : AtW w g11 g14 xA n xc s W1 :=
  ⟨(noncells_keep hg hr h.1).trans h.1, h.2.move hg.size (fun k hk hk2 => by
    rcases hk2 with hk2 | ⟨_, cells, e⟩
    · exact hg.block k hk (fun e => by have := (hr k e.symm).1; omega)
    · exact noncells_keep hg hr e)⟩
theorem AtW.below {g14 : Nat} {xA : Option Addr} {n xc : Nat} {s : List Int} (h : AtW w g11 g14 xA n xc s W) (hb : Below W.heap.size W W1) : AtW w g11 g14 xA n xc s W1 := ⟨(hb.block _ (heap_lt h.1)).trans h.1, h.2.below hb⟩
theorem Marks.noncells {B : Nat} {Ds : List Nat} (h : Marks B W Ds) {row : Option Nat} {B' : Nat} (hg : W.grownBy W1 row) (hDs : ∀ D ∈ Ds, D < B') (hr : ∀ r, row = some r → B' ≤ r ∧ ∃ o : Obj, W.heap[r]? = some o ∧ o.isCells = false) : Marks B W1 Ds :=
  h.move (fun D hD => hg.block D (heap_lt (h.2 D hD).2) (fun e => by have := (hr D e.symm).1; have := hDs D hD; omega))
end
end Go.Proofs.Ytehchpjjcohecaa.X
