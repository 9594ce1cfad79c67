import Derived.Test.YtehchpjjcohecaaC14a
import Derived.Test.YtehchpjjcohecaaM3
import Derived.Test.YtehchpjjcohecaaXF15
import Derived.Test.YtehchpjjcohecaaXF17
import Derived.Test.YtehchpjjcohecaaXF18
import Derived.Sort.QuietIn
import Derived.Stop.RegionWithIn
import Derived.Sort.LoopGhostIn
import Derived.IntWalk
import Derived.Shelf.RegionOpen
/- passes.far -/
namespace Go.Proofs.Ytehchpjjcohecaa.X
open Go.RowKit Go.Shelf Go.Maps Go.WideMaps Go.WideElems Go.Proofs.YtehchpjjcohecaaW.PrintWords Go.Proofs.YtehchpjjcohecaaW.PrintLast Go.Proofs.YtehchpjjcohecaaW.PrintMore
set_option linter.unusedVariables false
set_option linter.unusedSimpArgs false
attribute [local go_sem] Oper.semAt_some

def mark (D : Nat) : Deferred := { target := .collected D, args := #[] }
def Marks (B : Nat) (W : World) (Ds : List Nat) : Prop := Ds.Nodup ∧ ∀ D ∈ Ds, B ≤ D ∧ W.heap[D]? = some (.deferred (some []))
/-- The search's state, between its rounds. -/
def FarM (tol : List Int) (slack : Int) (f : Lit → Option Int) (g : List Int → Option Nat) : Prop := ∀ s, Ok tol slack s → f (.int .i64 (keyS s)) = (g s).map Int.ofNat
def farFrame (A0 : Option Addr) (c0 : Nat) (tol : List Int) (slack : Int) (ktol : Int) (B g3 g4 : Nat) (t17 : Value) (u5 u18 u19 u20 u21 u22 u23 u24 u25 u26 u27 u28 : Value) : Array Value :=
  #[.agg #[.slice A0 tol.length c0, .int .i64 slack], .pointer (some ⟨B, 0, none⟩), .map none, .pointer (some ⟨g3, 0, none⟩), .pointer (some ⟨g4, 0, none⟩), u5, undef, undef, undef, undef, .map (some (B + 1)), .pointer (some ⟨B, 0, none⟩), .slice A0 tol.length c0, .int .i64 ktol, .map (some (B + 1)), .pointer (some ⟨B, 0, none⟩), .slice A0 tol.length c0, t17, u18, u19, u20, u21, u22, u23, u24, u25, u26, u27, u28, undef, undef, undef, undef, undef, undef, undef, undef, undef, undef, undef, undef, undef, undef, undef, undef, undef, undef, undef, undef, undef, undef, undef, undef, undef, undef, undef, undef, undef, undef, undef, undef, undef, undef, undef]
def FarI (w : World) (A0 : Option Addr) (c0 : Nat) (tol : List Int) (slack : Int) (ktol : Int) (g3 g4 : Nat) (t17 : Value) (m : Nat) (a : Act) (W : World) : Prop :=
  ∃ (u5 u18 u19 u20 u21 u22 u23 u24 u25 u26 u27 u28 : Value) (Ds : List Nat) (seen todo : List (List Int)) (g : List Int → Option Nat) (f : Lit → Option Int), a = { tmps := farFrame A0 c0 tol slack ktol w.heap.size g3 g4 t17 u5 u18 u19 u20 u21 u22 u23 u24 u25 u26 u27 u28, defers := Ds.map mark } ∧
    FarW w g3 g4 none A0 c0 tol slack f seen.length todo W ∧ Bfs tol slack g seen todo ∧ FarM tol slack f g ∧ Marks w.heap.size W Ds ∧ m = 2 * (248832 - seen.length) + todo.length ∧ m ≤ 500000

theorem Marks.move {B : Nat} {W W1 : World} {Ds : List Nat} (h : Marks B W Ds) (hk : ∀ D ∈ Ds, W1.heap[D]? = W.heap[D]?) : Marks B W1 Ds :=
  ⟨h.1, fun D hD => ⟨(h.2 D hD).1, (hk D hD).trans (h.2 D hD).2⟩⟩
/-- The rounds' marks are taken off. -/
theorem leaves_marks {F : Fence} {n : Nat} {P : Program} {fn : Func} {tmps : Array Value} {R : Ending → World → Prop} {B : Nat} (I : World → Prop) (hI : ∀ W D o ds, I W → B ≤ D → W.heap[D]? = some (.deferred ds) → I (W.putObj D o)) (hend : ∀ W, I W → LeavesIn F n P fn tmps R [] .returning W) :
    ∀ (Ds : List Nat) (W : World), Marks B W Ds → I W → LeavesInM F n P fn tmps R (Ds.map mark) .returning W
  | [], W, _, h => hend W h
  | D :: Ds, W, hm, h => by
    obtain ⟨hn, hk⟩ := hm
    obtain ⟨hB, hD⟩ := hk D List.mem_cons_self
    refine ⟨by simp, .inl ⟨D, _, rfl, run_takeDeferred hD, ?_⟩⟩
    refine leaves_marks I hI hend Ds _ ⟨(List.nodup_cons.1 hn).2, fun D' hD' => ?_⟩ (hI W D _ _ h hB hD)
    have hne : D' ≠ D := fun e => (List.nodup_cons.1 hn).1 (e ▸ hD')
    exact ⟨(hk D' (List.mem_cons_of_mem _ hD')).1, (World.putObj_heap_other (fun e => hne e)).trans (hk D' (List.mem_cons_of_mem _ hD')).2⟩
def FarR (tol : List Int) (slack : Int) (w : World) (e : Ending) (w' : World) : Prop :=
  e = .returned (.map (some (w.heap.size + 1))) ∧ (∃ (cnt : Nat) (f : Lit → Option Int), MapL Try.prog 3 3 w' (w.heap.size + 1) cnt f ∧ ∀ s, Ok tol slack s → f (.int .i64 (keyS s)) = (dist tol slack s).map Int.ofNat ∧ ∀ d, dist tol slack s = some d → d < 248832) ∧ Below w.heap.size w w'

/-- Between two passes of a round. -/
def FarP (w : World) (g3 g4 g5 : Nat) (A0 : Option Addr) (c0 : Nat) (tol : List Int) (slack : Int) (xA : Option Addr) (xc : Nat) (at_ : List Int) (d m : Nat) (Ds : List Nat) (pre : List (PN tol.length)) (W : World) : Prop :=
  ∃ (seen todo : List (List Int)) (g : List Int → Option Nat) (f : Lit → Option Int), FarW w g3 g4 (some g5) A0 c0 tol slack f seen.length todo W ∧ W.heap[g5]? = some (.cells #[.slice xA tol.length xc] 22 (0, 0)) ∧ W.heap[g5 + 1]? = some (.cells #[.int .i64 tol.length] 3 (0, 0)) ∧
    Sees w.heap.size W (xA, tol.length, xc) at_ ∧ Marks w.heap.size W Ds ∧ FarM tol slack f g ∧ Rnd tol slack g seen todo at_ d (pre.map Subtype.val) ∧ 2 * (248832 - seen.length) + todo.length < m
theorem FarP.noncells {w : World} {g3 g4 g5 : Nat} {A0 : Option Addr} {c0 : Nat} {tol : List Int} {slack : Int} {xA : Option Addr} {xc : Nat} {at_ : List Int} {d m : Nat} {Ds : List Nat} {B' : Nat} (hB' : w.heap.size + 1 < B') (hDs : ∀ D ∈ Ds, D < B') :
    OwnFrom B' (FarP w g3 g4 g5 A0 c0 tol slack xA xc at_ d m Ds) := by
  rintro pre W W' row ⟨seen, todo, g, f, h1, h2, h2b, h3, h4, h5, h6, h7⟩ hg hr
  have lt : ∀ {k : Nat} {o : Obj}, W.heap[k]? = some o → k < W.heap.size := fun e => (Array.getElem?_eq_some_iff.1 e).1
  have hc : ∀ {k : Nat} {cells : Array Value} {t : Nat}, W.heap[k]? = some (.cells cells t (0, 0)) → W'.heap[k]? = W.heap[k]? := fun {k cells t} e => hg.block k (lt e) (fun e2 => by
    obtain ⟨_, o, ho, hoc⟩ := hr k e2.symm
    rw [e] at ho
    cases ho
    cases hoc)
  refine ⟨seen, todo, g, f, h1.noncells hg hB' hr, (hc h2).trans h2, (hc h2b).trans h2b, h3.move hg.size (fun k hk hk2 => ?_), h4.move (fun D hD => hg.block D (lt (h4.2 D hD).2) (fun e => by have := (hr D e.symm).1; have := hDs D hD; omega)), h5, h6, h7⟩
  rcases hk2 with hk2 | ⟨cells, t, e, _⟩
  · exact hg.block k hk (fun e => by have := (hr k e.symm).1; omega)
  · exact hc e

theorem keepsFrom_below {B : Nat} {W W1 : World} (h : Below W.heap.size W W1) : KeepsFrom B W W1 := KeepsFrom.of_grownBy (grown_of_below h none) (fun j e => by cases e)
theorem Sees.below {B : Nat} {W W1 : World} {x : SV} {l : List Int} (h : Sees B W x l) (hb : Below W.heap.size W W1) : Sees B W1 x l := h.move hb.size (fun k hk _ => hb.block k hk)
theorem heap_lt {W : World} {k : Nat} {o : Obj} (e : W.heap[k]? = some o) : k < W.heap.size := (Array.getElem?_eq_some_iff.1 e).1
theorem Marks.below {B : Nat} {W W1 : World} {Ds : List Nat} (h : Marks B W Ds) (hb : Below W.heap.size W W1) : Marks B W1 Ds := h.move (fun D hD => hb.block D (heap_lt (h.2 D hD).2))
/-- A cut behind a region. -/
theorem region_cut {F : Fence} {n : Nat} {P : Program} {c : Code} {K : Act → World → Prop} {Q : Exit → Act → World → Prop} {a : Act} {w : World} (R : Act → World → Prop)
    (h : c.wpIn F n P (Exit.then R (fun _ _ _ => False)) a w) (hk : ∀ a w, R a w → K a w) : c.wpIn F n P (Exit.then K Q) a w := by
  refine wpIn_mono h ?_
  intro e a' w' hq
  cases e with
  | normal => exact hk _ _ hq
  | exit id => exact hq.elim
  | goto l => exact hq.elim
  | ret => exact hq.elim
  | panic ch => exact hq.elim
  | outgrown => exact hq.elim
theorem wf64 {x : Int} (h0 : -9223372036854775808 ≤ x) (h1 : x ≤ 9223372036854775807) : (Lit.int .i64 x).wf = true := by
  have h := wrap64_wf x
  rwa [w64 h0 h1] at h
theorem gate_arg {F : Fence} {n : Nat} {P : Program} {f : FuncId} {w : World} {R : Ending → World → Prop} (v : Value) (h : CallsIn F n P f #[v] w R) : CallsIn F n P f #[v] w R := h
theorem info22 : (Try.prog.info? 22).map (fun i => (i.zero, i.size, i.bytes)) = some (some (.slice none 0 0), 1, 24) := by kernel_rfl
theorem farM_new {tol : List Int} {slack : Int} {f : Lit → Option Int} {g : List Int → Option Nat} (h : FarM tol slack f g) {b : List Int} (hb : Ok tol slack b) (d : Nat) :
    FarM tol slack (updL f (.int .i64 (keyS b)) (d : Int)) (fun s => if s = b then some d else g s) := by
  intro s hs
  by_cases e : s = b
  · subst e
    simp [updL]
  · have hk : keyS s ≠ keyS b := fun e2 => e (hs.key_inj hb e2)
    simp [updL, e, hk]
    exact h s hs
theorem mapL_look_drawn {w3 : World} {M cnt : Nat} {f : Lit → Option Int} (h : MapL Try.prog 3 3 w3 M cnt f) (kb : Int) (hw : (Lit.int .i64 kb).wf = true) (n : Nat) :
    (Instr.lookup 36 (.map (some M)) (.int .i64 kb) true).run Try.prog (w3.drewN n) = .ok (.tuple #[.int .i64 ((f (.int .i64 kb)).getD 0), .bool (f (.int .i64 kb)).isSome]) (w3.drewN n) :=
  (h.same (w' := w3.drewN n) rfl).look (int_keyed Try.underlying3) Try.underlying36 Try.underlying3 (Try.zeroValue3 _) (keyOf_int_mk Try.underlying3 hw) trivial

set_option maxRecDepth 100000 in
set_option maxHeartbeats 8000000 in
theorem far_in (A0 : Option Addr) (c0 : Nat) (tol : List Int) (slack : Int) (w : World) (hr0 : Kd.C (Kd.int .i64) w A0 tol.length tol) (hc0 : tol.length ≤ c0)
    (hok : Ok tol slack tol) (hn1 : 1 ≤ tol.length) (hn5 : tol.length ≤ 5) :
    CallsIn Fence.wide 9 Try.prog 14 #[.agg #[.slice A0 tol.length c0, .int .i64 slack]] w (FarR tol slack w) := by
  have hkey := key_f tol hok.range hn5 100 (by omega)
  have hwf : (Lit.int .i64 (keyS tol)).wf = true := by have h := hok.key_range hn5; exact wf64 (by omega) (by omega)
  obtain ⟨ktol, hkt⟩ : ∃ k, keyS tol = k := ⟨_, rfl⟩
  rw [hkt] at hkey hwf
  have HKT := Go.Lib.hid hkt
  clear hkt
  have hmm := @run_makeMap Try.prog
  have HR := Aside0.mk hr0
  have HC := Aside0.mk hc0
  have HK := Aside0.mk hkey
  clear hr0 hc0 hkey
  refine callsIn_of_wp_marks Try.func14 rfl trivial ?_ rfl
  simp only [Try.ntmps14, List.size_toArray, List.length_cons, List.length_nil, Nat.reduceAdd, Nat.reduceSub, Array.replicate_succ, Array.replicate_zero, List.push_toArray, List.append_toArray, List.nil_append, List.cons_append]
  gi_wp2_with (refine ⟨trivial, ?_⟩; gi_at_call 15; refine (callsIn_wide.2 (passes_key.calls 100 _ _ tol ktol _ ?s1 ?s2 HK.out)).mono ?_; (case s1 => exact Kd.C_below HR.out (((Below.refl _ w).alloc (Nat.le_refl _) _).alloc (by simp) _)); (case s2 => exact HC.out); rintro e w' ⟨rfl, hd⟩; obtain ⟨⟨nd, rfl⟩⟩ := hd)
  obtain ⟨W0, hW0⟩ : ∃ W0, ((w.alloc (.cells #[.slice A0 tol.length c0, .int .i64 slack] 35)).alloc (.map #[] 0)).drewN nd = W0 := ⟨_, rfl⟩
  have hB0 : Below w.heap.size w W0 := by rw [← hW0]; exact pw_below_drewN (((Below.refl _ w).alloc (Nat.le_refl _) _).alloc (by simp) _) nd
  have hM0 : MapL Try.prog 3 3 W0 (w.heap.size + 1) 0 (fun _ => none) := by
    have h := MapL.made (w.alloc (.cells #[.slice A0 tol.length c0, .int .i64 slack] 35)) Try.prog 3 3
    rw [World.size_alloc] at h
    exact h.same (by rw [← hW0]; rfl)
  have hP0 : W0.heap[w.heap.size]? = some (.cells #[.slice A0 tol.length c0, .int .i64 slack] 35) := by
    rw [← hW0]
    exact (Below.heap_alloc _ _ _ (by simp)).trans (World.alloc_heap_new w _)
  obtain ⟨W1, hrun, hM1, hg1⟩ := hM0.update (t := 36) (int_keyed Try.underlying3) Try.underlying36 Try.underlying3 (by unfold maxLen; omega) 0 (keyOf_int_mk Try.underlying3 (show (Lit.int .i64 ktol).wf = true from hwf)) (show WideAt.IsKeyLit (Lit.int .i64 ktol) from trivial) (by decide)
  rw [hW0, hrun]
  have hB1 : Below w.heap.size w W1 := hB0.grown hg1 hB0.size (fun k e => by cases e; omega)
  have hP1 : W1.heap[w.heap.size]? = some (.cells #[.slice A0 tol.length c0, .int .i64 slack] 35) := (hg1.block _ (by have := hM0.lt; omega) (by simp)).trans hP0
  have hs1 : w.heap.size + 1 < W1.heap.size := hM1.lt
  have hc1_0 : W1.cell? ⟨w.heap.size, 0, none⟩ = some (.slice A0 tol.length c0) := by simp [World.cell?, hP1]
  have hc1_1 : W1.cell? ⟨w.heap.size, 1, none⟩ = some (.int .i64 slack) := by simp [World.cell?, hP1]
  have hs0 : w.heap.size < W1.heap.size := by omega
  clear hrun hW0
  gi_wp2
  obtain ⟨W2, hW2⟩ : ∃ W2, ((((W1.alloc (.cells #[.map (some (w.heap.size + 1))] 36)).alloc (.cells #[.slice A0 tol.length c0] 22)).alloc (.cells #[.slice (some ⟨W1.heap.size + 1, 0, none⟩) 1 1] 53))) = W2 := ⟨_, rfl⟩
  rw [hW2]
  have hF : FarW w W1.heap.size (W1.heap.size + 1 + 1) none A0 c0 tol slack (updL (fun _ => none) (.int .i64 ktol) 0) 1 [tol] W2 := by
    have hB2 : Below W1.heap.size W1 W2 := by rw [← hW2]; exact (((Below.refl _ _).alloc (Nat.le_refl _) _).alloc (by simp) _).alloc (by simp; omega) _
    have hB12 : Below w.heap.size w W2 := hB1.trans (hB2.mono hB1.size)
    have i3 : W2.heap[W1.heap.size]? = some (.cells #[.map (some (w.heap.size + 1))] 36 (0, 0)) := by
      rw [← hW2]
      exact (Below.heap_alloc _ _ _ (by simp; omega)).trans ((Below.heap_alloc _ _ _ (by simp)).trans (World.alloc_heap_new W1 _))
    have iR : W2.heap[W1.heap.size + 1]? = some (.cells #[.slice A0 tol.length c0] 22 (0, 0)) := by
      rw [← hW2]
      refine (Below.heap_alloc _ _ _ (by simp)).trans ?_
      have h := World.alloc_heap_new (W1.alloc (.cells #[.map (some (w.heap.size + 1))] 36)) (.cells #[.slice A0 tol.length c0] 22)
      simpa using h
    have i4 : W2.heap[W1.heap.size + 1 + 1]? = some (.cells #[.slice (some ⟨W1.heap.size + 1, 0, none⟩) 1 1] 53 (0, 0)) := by
      rw [← hW2]
      have h := World.alloc_heap_new ((W1.alloc (.cells #[.map (some (w.heap.size + 1))] 36)).alloc (.cells #[.slice A0 tol.length c0] 22)) (.cells #[.slice (some ⟨W1.heap.size + 1, 0, none⟩) 1 1] 53)
      simpa using h
    refine ⟨hB12, (hB2.block _ (by omega)).trans hP1, i3, hM1.same (hB2.block _ hM1.lt), _, [(A0, tol.length, c0)], i4, ⟨fun k hk => by simp, [.slice A0 tol.length c0], ⟨by simp [kSV, Kd.scalar], .inr ⟨W1.heap.size + 1, 0, 1, _, by simp [kSV, Kd.scalar], by omega, iR, Nat.le_refl _, by simp [maxLen], by simp [kSV, Kd.scalar], by simp [kSV, Kd.scalar]⟩⟩, Reps.one (show kSV.M _ _ _ ((A0, tol.length, c0) : SV) [.slice A0 tol.length c0] from rfl) (Reps.none _ _)⟩, rfl, ?_⟩
    intro i x l a b
    cases i with
    | zero =>
      simp at a b
      subst a b
      exact Sees.ofC HR.out HC.out hB12
    | succ i => simp at a
  refine wpIn_loop_ghost (FarI w A0 c0 tol slack ktol W1.heap.size (W1.heap.size + 1 + 1) (.slice (some ⟨W1.heap.size + 1, 0, none⟩) 1 1)) (2 * (248832 - 1) + 1) ?start ?round
  case start =>
    refine ⟨undef, undef, undef, undef, undef, undef, undef, undef, undef, undef, undef, undef, [], [tol], [tol], _, _, rfl, hF, Bfs.begin tol slack hok, ?_, ⟨by simp, by simp⟩, rfl, by omega⟩
    rw [show ktol = keyS tol from HKT.out.symm]
    exact farM_new (f := fun _ => none) (g := fun _ => none) (fun s hs => rfl) hok 0
  case round =>
    clear hF
    rintro m a W ⟨u5, u18, u19, u20, u21, u22, u23, u24, u25, u26, u27, u28, Ds, seen, todo, g, f, rfl, hF, hG, hfg, hD, rfl, hm5⟩
    have hwlt : w.heap.size < W1.heap.size := hs0
    clear hW2 hP0 hP1 hc1_0 hc1_1 hM0 hM1 hB0 hB1 hg1
    have hF0 := Aside0.mk hF
    obtain ⟨h1, h2, h3, h4, v, hs, h5, h6, h7, h8⟩ := hF
    obtain ⟨A, c, rfl, hnc⟩ := Kd.Q_slice h6
    have hcell4 : W.cell? ⟨W1.heap.size + 1 + 1, 0, none⟩ = some (.slice A hs.length c) := by simp [World.cell?, h5]
    have hfz4 : W.frozen? ⟨W1.heap.size + 1 + 1, 0, none⟩ = false := by simp [World.frozen?, h5]
    unfold farFrame
    cases todo with
    | nil =>
      have hs_nil : hs = [] := List.eq_nil_of_length_eq_zero h7
      subst hs_nil
      have hcell3 : W.cell? ⟨W1.heap.size, 0, none⟩ = some (.map (some (w.heap.size + 1))) := by simp [World.cell?, h3]
      gi_wp2
      refine leaves_marks (B := w.heap.size) (fun W' => MapL Try.prog 3 3 W' (w.heap.size + 1) seen.length f ∧ Below w.heap.size w W') ?_ ?_ Ds W hD ⟨h4, h1⟩
      · rintro W' D o ds ⟨i1, i2⟩ hB hDo
        have hne : w.heap.size + 1 ≠ D := fun e => by
          obtain ⟨es, ck, e2⟩ := i1.block
          rw [e, hDo] at e2
          cases e2
        exact ⟨i1.same (World.putObj_heap_other hne), i2.grown (grownBy_putObj' W' D o) i2.size (fun k e => by cases e; exact hB)⟩
      · rintro W' ⟨i1, i2⟩
        refine ⟨_, results_tmp rfl _ _ _, rfl, ⟨_, _, i1, fun s hs => ⟨?_, fun d hd => ?_⟩⟩, i2⟩
        · rw [hfg s hs, hG.dist s hs]
        · rw [← hG.dist s hs] at hd
          have h1 := hG.bound s d hd
          have h2 := seen_bound hn5 seen hG.nodup hG.ok
          omega
    | cons at_ rest =>
      simp only [List.length_cons] at hm5
      obtain ⟨d, hR⟩ := hG.pop
      cases hs with
      | nil => simp at h7
      | cons x0 hs' =>
        have hsee0 := h8 0 x0 at_ rfl rfl
        obtain ⟨_, _, hC⟩ := Kd.Q_reads' h6
        obtain ⟨ad, e, hcl⟩ := hC.2.2 (by simp)
        obtain ⟨cc, _, hcc, hcl0⟩ := hcl 0 x0 rfl
        obtain rfl : cc = [encSV x0] := hcc
        subst e
        obtain ⟨xA, xn, xc⟩ := x0
        have hcell : W.cell? ad = some (.slice xA xn xc) := by have h := hcl0 0 _ rfl; rwa [show ad.add (0 * kSV.sz + 0) = ad from by simp [go_sem]] at h
        simp only [List.length_cons] at hcell4 hnc h5 h6
        have Hhs := Go.Lib.hid h7
        have hlen5 : at_.length = tol.length := (hG.ok at_ (hG.sub at_ List.mem_cons_self)).1
        obtain rfl : xn = tol.length := hsee0.1.trans hlen5
        have HL5 := Go.Lib.hid hlen5
        clear hlen5
        obtain ⟨v', hQ', hsl, A', c', rfl⟩ := queue_pop h6
        have HQ' := Aside0.mk hQ'
        have H6 := Aside0.mk h6
        have H8 := Aside0.mk h8
        have Hsee0 := Aside0.mk hsee0
        clear hQ' h6 h8 hsee0
        have hlt4 : W1.heap.size + 1 + 1 < W.heap.size := (Array.getElem?_eq_some_iff.1 h5).1
        clear hcl hcl0 hC h7
        gi_wp2_with (refine ⟨trivial, ?_⟩; gi_at_call 16; refine (all_in Fence.wide _ trivial rfl tol.length _).mono ?_; rintro e w' ⟨rfl, rfl⟩)
        obtain ⟨W3, hW3⟩ : ∃ W3, (((W.setCell ⟨W1.heap.size + 1 + 1, 0, none⟩ (.slice A' hs'.length c')).alloc (.cells #[.slice xA tol.length xc] 22)).alloc (.cells #[.int .i64 tol.length] 3)) = W3 := ⟨_, rfl⟩
        rw [hW3]
        have hs3 : W3.heap.size = W.heap.size + 2 := by rw [← hW3]; simp
        have hBn : W3.heap[W.heap.size + 1]? = some (.cells #[.int .i64 tol.length] 3 (0, 0)) := by
          rw [← hW3]
          have h := World.alloc_heap_new ((W.setCell ⟨W1.heap.size + 1 + 1, 0, none⟩ (.slice A' hs'.length c')).alloc (.cells #[.slice xA tol.length xc] 22)) (.cells #[.int .i64 tol.length] 3)
          simpa using h
        have h35 : W3.heap[W.heap.size]? = some (.cells #[.slice xA tol.length xc] 22 (0, 0)) := by
          rw [← hW3]
          refine (Below.heap_alloc _ _ _ (by simp)).trans ?_
          have h := World.alloc_heap_new (W.setCell ⟨W1.heap.size + 1 + 1, 0, none⟩ (.slice A' hs'.length c')) (.cells #[.slice xA tol.length xc] 22)
          simpa using h
        have hW := hF0.out
        have hFq : FarW w W1.heap.size (W1.heap.size + 1 + 1) none A0 c0 tol slack f seen.length rest (W.setCell ⟨W1.heap.size + 1 + 1, 0, none⟩ (.slice A' hs'.length c')) :=
          hW.queue (by omega) (by omega) HQ'.out (by have h := Hhs.out; simpa using h) (fun i x l a b => H8.out (i + 1) x l (by simpa using a) (by simpa using b))
        have hB3 : Below (W.setCell ⟨W1.heap.size + 1 + 1, 0, none⟩ (.slice A' hs'.length c')).heap.size (W.setCell ⟨W1.heap.size + 1 + 1, 0, none⟩ (.slice A' hs'.length c')) W3 := by
          rw [← hW3]; exact ((Below.refl _ _).alloc (Nat.le_refl _) _).alloc (by simp) _
        have hF3 : FarW w W1.heap.size (W1.heap.size + 1 + 1) (some W.heap.size) A0 c0 tol slack f seen.length rest W3 := (hFq.away (g := W.heap.size) (by simp)).below hB3
        have hsc : ∀ k, k ≠ W1.heap.size + 1 + 1 → (W.setCell ⟨W1.heap.size + 1 + 1, 0, none⟩ (.slice A' hs'.length c')).heap[k]? = W.heap[k]? := fun k hk => Below.heap_setCell W _ _ k hk
        have hS3 : Sees w.heap.size W3 (xA, tol.length, xc) at_ := by
          refine Sees.below ?_ hB3
          refine Hsee0.out.move (by simp) (fun k hk hk2 => hsc k ?_)
          rcases hk2 with hk2 | ⟨cells, t, e, rfl⟩
          · omega
          · rintro rfl
            rw [h5] at e
            cases e
        have hD3 : Marks w.heap.size W3 Ds := by
          refine Marks.below (hD.move (fun D hDm => hsc D ?_)) hB3
          rintro rfl
          have e := (hD.2 _ hDm).2
          rw [h5] at e
          cases e
        have hDlt : ∀ D ∈ Ds, D < W3.heap.size := fun D hD => (Array.getElem?_eq_some_iff.1 (hD3.2 D hD).2).1
        refine wpIn_rangeFunc_ownH rfl (by omega) (gf := 27) (lb := #[.pointer (some ⟨W.heap.size + 1, 0, none⟩)]) rfl trivial (enters_of Try.func27 (by kernel_rfl) rfl)
          (all_stops Fence.wide 8 trivial rfl (by omega) (W.heap.size + 1) tol.length (by omega) (by omega) W3 (by omega) (by simp [World.cell?, hBn])) (fun h k => KeepB.trans h k) ?hKb (Below.refl _ _) (fun _ => rfl)
          (FarP w W1.heap.size (W1.heap.size + 1 + 1) W.heap.size A0 c0 tol slack xA xc at_ d (2 * (248832 - seen.length) + (rest.length + 1)) Ds) (fun _ _ _ => False)
          (FarP.noncells (by omega) hDlt) (fun _ _ _ _ _ hs _ _ => hs) ⟨seen, rest, g, f, hF3, h35, hBn, hS3, hD3, hfg, hR, by omega⟩
          (fun x a' W' => ∃ Bx, W3.heap.size ≤ Bx ∧ W'.heap[Bx]? = some (.cells #[.int .i64 x.1.1, .int .i64 x.1.2] 43 (0, 0)) ∧ a' = { tmps := ((farFrame A0 c0 tol slack ktol w.heap.size W1.heap.size (W1.heap.size + 1 + 1) (.slice (some ⟨W1.heap.size + 1, 0, none⟩) 1 1) (.pointer (some ⟨W.heap.size, 0, none⟩)) (.slice (some ad) (hs'.length + 1) c) (.int .i64 (hs'.length + 1)) (.bool true) (.slice (some ad) (hs'.length + 1) c) (.pointer (some ad)) (.slice xA tol.length xc) (.slice (some ad) (hs'.length + 1) c) (.slice A' hs'.length c') (.slice xA tol.length xc) (.int .i64 tol.length) (.func (.func 27) #[] #[.pointer (some ⟨W.heap.size + 1, 0, none⟩)])).setIfInBounds 29 (.agg #[.int .i64 x.1.1, .int .i64 x.1.2])).setIfInBounds 6 (.pointer (some ⟨Bx, 0, none⟩)), defers := [] }) ?hAx ?assign ?body ?done ?stop
        case hKb => exact fun W' l o o' hl ho hc hw => World.putObj_heap_other (by omega)
        case hAx =>
          rintro x a' _ W' W'' row ⟨Bx, hBx, hbx, rfl⟩ hg hr
          refine ⟨Bx, hBx, (hg.block Bx (heap_lt hbx) (fun e2 => ?_)).trans hbx, rfl⟩
          obtain ⟨_, o, ho, hoc⟩ := hr Bx e2.symm
          rw [hbx] at ho
          cases ho
          cases hoc
        case assign =>
          intro l pre x W' K hI hK
          obtain ⟨_, _, _, _, _, _, hIb, _⟩ := id hI
          have hle : W3.heap.size ≤ W'.heap.size := by have := heap_lt hIb; omega
          gi_wp2
          exact hK _ _ ((KeepsOthers.alloc _ _).from _) (show KeepB _ _ _ from Below.heap_alloc _ _ _ (by omega)) ((FarP.noncells (by omega) hDlt).alloc _ hI) ⟨W'.heap.size, hle, World.alloc_heap_new _ _, rfl⟩
        case body =>
          rintro l pre x a' W' hl ⟨rl, hrl⟩ hI ⟨Bx, hBx, hbx, rfl⟩ hpre
          obtain ⟨seen', todo', g', f', hF', h5', h5b, hS', hD', hfg', hRn', hm'⟩ := hI
          obtain ⟨hB', hP', hM3', hMap', v4, hs4, hT4, hQ4, hl4, hsee4⟩ := id hF'
          have hx := (mem_allP _ _).1 x.2
          obtain ⟨hx0, hx1, hx2, hx3, hx4⟩ := hx
          have hx5 : x.1.2 ≤ 32 := by have := (pow_le tol.length hn5).1; have := (pow_le tol.length hn5).2.2.1; omega
          have hcb_0 : W'.cell? ⟨Bx, 0, none⟩ = some (.int .i64 x.1.1) := by simp [World.cell?, hbx]
          have hcb_1 : W'.cell? ⟨Bx, 1, none⟩ = some (.int .i64 x.1.2) := by simp [World.cell?, hbx]
          have hc5 : W'.cell? ⟨W.heap.size, 0, none⟩ = some (.slice xA tol.length xc) := by simp [World.cell?, h5']
          have hok_at : Ok tol slack at_ := hG.ok at_ (hG.sub at_ List.mem_cons_self)
          have hmv := moved_f (neg x.1) tol.length (neg_mem _ _ x.2) hn5 at_ (by rw [HL5.out]; exact hn5) hok_at.range 100 (by omega)
          have hcall17 : Calls Try.prog 17 #[.slice xA tol.length xc, .agg #[.int .i64 (-x.1.1), .int .i64 x.1.2]] W' fun e w' => ∃ v0_ : Value, e = .returned v0_ ∧ Kd.R (Kd.int .i64) 3 w' W'.heap.size (fun _ => True) v0_ (mv (neg x.1) at_) ∧ Below W'.heap.size W' w' := by
            have h := passes_moved.calls 100 xA xc at_ _ _ (mv (neg x.1) at_) W' hS'.C hS'.2.1 hmv
            rw [HL5.out] at h
            exact h
          have H17 := Aside0.mk hcall17
          have HS' := Aside0.mk hS'
          have HF' := Aside0.mk hF'
          have HHO := Aside0.mk hok_at
          have HRn := Aside0.mk hRn'
          have HQ4 := Aside0.mk hQ4
          have HL4 := Go.Lib.hid hl4
          clear hl4
          have Hsee4 := Aside0.mk hsee4
          have Hmap' := Aside0.mk hMap'
          have Hfg := Aside0.mk hfg'
          unfold farFrame
          clear hmv hx4 hcall17 hS' hF' hok_at hRn' hQ4 hsee4 hMap' hfg'
          obtain ⟨back, hback⟩ : ∃ back, mv (neg x.1) at_ = back := ⟨_, rfl⟩
          have hbl : back.length = tol.length := by rw [← hback, mv_length]; exact HL5.out
          rw [hback] at H17
          have HBK := Go.Lib.hid hback
          have HBL := Go.Lib.hid hbl
          have hbl5 : back.length ≤ 5 := by omega
          have H18 := Aside0.mk (ok_f tol back slack hbl (by omega) 100 (by omega))
          clear hback hbl
          by_cases hob : okL slack none tol back = true
          · rw [hob] at H18
            have hobk : Ok tol slack back := ⟨HBL.out, hob⟩
            have H15 := Aside0.mk (key_f back hobk.range hbl5 100 (by omega))
            have hkr := hobk.key_range hn5
            have HOK := Aside0.mk hobk
            clear hob hobk
            gi_wp2_with (first
              | (refine ⟨trivial, ?_⟩; gi_at_call 17; refine (CallsIn.inRound l (callsIn_wide.2 H17.out)).mono ?_; rintro e w2 ⟨v7, rfl, hR7, hB7⟩; obtain ⟨A7, c7, rfl, hS7⟩ := Sees.ofR' (B := w.heap.size) hR7; have HS7 := Aside0.mk hS7; have hF2 := HF'.out.below hB7; have hP2 := hF2.2.1; have hcp_0 : w2.cell? ⟨w.heap.size, 0, none⟩ = some (.slice A0 tol.length c0) := blk_cell hP2 0; have hcp_1 : w2.cell? ⟨w.heap.size, 1, none⟩ = some (.int .i64 slack) := blk_cell hP2 1; have HF2 := Aside0.mk hF2; clear hR7 hS7 hF2 hP2)
              | (refine ⟨trivial, ?_⟩; gi_at_call 18; refine (CallsIn.inRound l (callsIn_wide.2 (passes_puzzle_ok.calls 100 _ _ tol slack _ _ back true _ ?s1 HC.out ?s2 HS7.out.2.1 H18.out))).mono ?_; (case s1 => exact C_blocks HR.out HF2.out.1.block); (case s2 => exact HS7.out.C); rintro e w3 ⟨rfl, hB8⟩))
            have hB9 : Below W'.heap.size W' w3 := hB7.trans (hB8.mono hB7.size)
            have hF3' := HF'.out.below hB9
            have hlook := mapL_look_drawn hF3'.2.2.2.1 (keyS back) (wf64 (by omega) (by omega))
            have HCB : Aside0 (∀ w5 : World, w5.heap = w3.heap → Calls Try.prog 15 #[.slice A7 back.length c7] w5 fun e w' => e = .returned (.int .i64 (keyS back)) ∧ Drawn0 w5 w') :=
              ⟨fun w5 h5 => passes_key.calls 100 A7 c7 back (keyS back) w5 ((HS7.out.below hB8).move (by rw [h5]; exact Nat.le_refl _) (fun k _ _ => by rw [h5])).C HS7.out.2.1 H15.out⟩
            have hcm : w3.cell? ⟨W1.heap.size, 0, none⟩ = some (.map (some (w.heap.size + 1))) := blk_cell hF3'.2.2.1 0
            have HF3 := Aside0.mk hF3'
            clear hF3'
            have hmx : Try.prog.follows .mixedOrders = true := by kernel_rfl
            obtain ⟨sn, hsn⟩ : ∃ sn, (f' (.int .i64 (keyS back))).isSome = sn := ⟨_, rfl⟩
            rw [hsn] at hlook
            have HSN := Go.Lib.hid hsn
            clear hsn
            refine region_cut (R := fun aa WW => ∃ N : Nat, aa = { tmps := #[.agg #[.slice A0 tol.length c0, .int .i64 slack], .pointer (some ⟨w.heap.size, 0, none⟩), .map none, .pointer (some ⟨W1.heap.size, 0, none⟩), .pointer (some ⟨W1.heap.size + 1 + 1, 0, none⟩), .pointer (some ⟨W.heap.size, 0, none⟩), .pointer (some ⟨Bx, 0, none⟩), .slice A7 back.length c7, .int .i64 ((f' (.int .i64 (keyS back))).getD 0), .bool sn, .map (some (w.heap.size + 1)), .pointer (some ⟨w.heap.size, 0, none⟩), .slice A0 tol.length c0, .int .i64 ktol, .map (some (w.heap.size + 1)), .pointer (some ⟨w.heap.size, 0, none⟩), .slice A0 tol.length c0, .slice (some ⟨W1.heap.size + 1, 0, none⟩) 1 1, .slice (some ad) (hs'.length + 1) c, .int .i64 (hs'.length + 1), .bool true, .slice (some ad) (hs'.length + 1) c, .pointer (some ad), .slice xA tol.length xc, .slice (some ad) (hs'.length + 1) c, .slice A' hs'.length c', .slice xA tol.length xc, .int .i64 tol.length, .func (.func 27) #[] #[.pointer (some ⟨W.heap.size + 1, 0, none⟩)], .agg #[.int .i64 x.val.fst, .int .i64 x.val.snd], .slice xA tol.length xc, .pointer (some ⟨Bx, 0, none⟩), .int .i64 x.val.fst, .int .i64 (-x.val.fst), .pointer (some ⟨Bx, 1, none⟩), .int .i64 x.val.snd, .agg #[.int .i64 (-x.val.fst), .int .i64 x.val.snd], .slice A7 back.length c7, .agg #[.slice A0 tol.length c0, .int .i64 slack], .slice A7 back.length c7, .bool true, .bool false, .tuple #[.int .i64 ((f' (.int .i64 (keyS back))).getD 0), .bool sn], .map (some (w.heap.size + 1)), .slice A7 back.length c7, .int .i64 (keyS back), .tuple #[.int .i64 ((f' (.int .i64 (keyS back))).getD 0), .bool sn], .int .i64 ((f' (.int .i64 (keyS back))).getD 0), .bool sn, undef, undef, undef, undef, undef, undef, undef, undef, undef, undef, undef, undef, undef, undef, undef], defers := [] } ∧ WW = w3.drewN N) ?_ ?_
            · gi_region_with_o (refine ⟨trivial, ?_⟩; gi_at_call 15; refine (CallsIn.inRound l (callsIn_wide.2 (HCB.out _ ?hw))).mono ?_; (case hw => rfl); rintro e w4 ⟨rfl, ⟨⟨nd, rfl⟩⟩⟩)
              all_goals exact ⟨_, rfl, rfl⟩
            · rintro a' W4 ⟨N, rfl, rfl⟩
              have hBN : Below W'.heap.size W' (w3.drewN N) := pw_below_drewN hB9 N
              cases sn with
              | true =>
                gi_wp2
                refine ⟨keepsFrom_below hBN, hBN.block _ (heap_lt h5b), seen', todo', g', f', HF'.out.below hBN, (hBN.block _ (heap_lt h5')).trans h5', (hBN.block _ (heap_lt h5b)).trans h5b, HS'.out.below hBN, hD'.below hBN, Hfg.out, ?_, hm'⟩
                rw [List.map_append]
                refine HRn.out.old x.1 ?_
                rw [HBK.out]
                have h1 := Hfg.out back HOK.out
                have h2 := HSN.out
                rw [h1] at h2
                simpa using h2
              | false =>
                have hgb : (g' back).isSome = false := by
                  have h1 := Hfg.out back HOK.out
                  have h2 := HSN.out
                  rw [h1] at h2
                  simpa using h2
                have hgat : f' (.int .i64 (keyS at_)) = some (d : Int) := by
                  rw [Hfg.out at_ HHO.out, HRn.out.here]; rfl
                have hdl : d < seen'.length := HRn.out.bound at_ d HRn.out.here
                have hsl' : seen'.length ≤ 248832 := seen_bound hn5 seen' HRn.out.nodup HRn.out.ok
                have hkat := HHO.out.key_range hn5
                have hc5N : ∀ n : Nat, (w3.drewN n).cell? ⟨W.heap.size, 0, none⟩ = some (.slice xA tol.length xc) := fun n => blk_cell ((hB9.block _ (heap_lt h5')).trans h5') 0
                have hlook1 : ∀ n : Nat, (Instr.lookup 36 (.map (some (w.heap.size + 1))) (.int .i64 (keyS at_)) false).run Try.prog (w3.drewN n) = .ok (.int .i64 d) (w3.drewN n) := fun n => by
                  have h := (HF3.out.2.2.2.1.same (w' := w3.drewN n) rfl).look1 (t := 36) (int_keyed Try.underlying3) Try.underlying36 Try.underlying3 (Try.zeroValue3 _) (keyOf_int_mk Try.underlying3 (wf64 (by omega) (by omega) : (Lit.int .i64 (keyS at_)).wf = true)) trivial
                  rw [hgat] at h
                  exact h
                obtain ⟨W4, hW4⟩ : ∃ W4 : Nat → World, ∀ n, (Instr.mapUpdate 36 (.map (some (w.heap.size + 1))) (.int .i64 (keyS back)) (.int .i64 ((d : Int) + 1))).run Try.prog (w3.drewN n) = .ok () (W4 n) ∧ MapL Try.prog 3 3 (W4 n) (w.heap.size + 1) (seen'.length + 1) (updL f' (.int .i64 (keyS back)) ((d : Int) + 1)) ∧ (w3.drewN n).grownBy (W4 n) (some (w.heap.size + 1)) := by
                  have h := fun n => (HF3.out.2.2.2.1.same (w' := w3.drewN n) rfl).update (t := 36) (int_keyed Try.underlying3) Try.underlying36 Try.underlying3 (by unfold maxLen; omega) ((d : Int) + 1) (keyOf_int_mk Try.underlying3 (wf64 (by omega) (by omega) : (Lit.int .i64 (keyS back)).wf = true)) trivial (wf64 (by omega) (by omega))
                  exact ⟨fun n => Classical.choose (h n), fun n => Classical.choose_spec (h n)⟩
                have hwr : IntKind.i64.wrap ((d : Int) + 1) = (d : Int) + 1 := IntWalk.i64_in _ (by omega)
                have hupd : ∀ n, (Instr.mapUpdate 36 (.map (some (w.heap.size + 1))) (.int .i64 (keyS back)) (.int .i64 (IntKind.i64.wrap ((d : Int) + 1)))).run Try.prog (w3.drewN n) = .ok () (W4 n) := fun n => by rw [hwr]; exact (hW4 n).1
                clear hwr
                have HW4 := Aside0.mk hW4
                have H15a := Aside0.mk (key_f at_ HHO.out.range (by rw [HL5.out]; exact hn5) 100 (by omega))
                have hcallat : ∀ w5 : World, w5.heap = w3.heap → Calls Try.prog 15 #[.slice xA tol.length xc] w5 fun e w' => e = .returned (.int .i64 (keyS at_)) ∧ Drawn0 w5 w' := fun w5 h5 => by
                  have h := passes_key.calls 100 xA xc at_ (keyS at_) w5 ((HS'.out.below hB9).move (by rw [h5]; exact Nat.le_refl _) (fun k _ _ => by rw [h5])).C HS'.out.2.1 H15a.out
                  rw [HL5.out] at h
                  exact h
                have HCA := Aside0.mk hcallat
                clear hgat hW4 hcallat
                gi_wp2
                refine region_cut (R := fun aa WW => ∃ N : Nat, aa = { tmps := #[.agg #[.slice A0 tol.length c0, .int .i64 slack], .pointer (some ⟨w.heap.size, 0, none⟩), .map none, .pointer (some ⟨W1.heap.size, 0, none⟩), .pointer (some ⟨W1.heap.size + 1 + 1, 0, none⟩), .pointer (some ⟨W.heap.size, 0, none⟩), .pointer (some ⟨Bx, 0, none⟩), .slice A7 back.length c7, .int .i64 ((f' (.int .i64 (keyS back))).getD 0), .bool false, .map (some (w.heap.size + 1)), .pointer (some ⟨w.heap.size, 0, none⟩), .slice A0 tol.length c0, .int .i64 ktol, .map (some (w.heap.size + 1)), .pointer (some ⟨w.heap.size, 0, none⟩), .slice A0 tol.length c0, .slice (some ⟨W1.heap.size + 1, 0, none⟩) 1 1, .slice (some ad) (hs'.length + 1) c, .int .i64 (hs'.length + 1), .bool true, .slice (some ad) (hs'.length + 1) c, .pointer (some ad), .slice xA tol.length xc, .slice (some ad) (hs'.length + 1) c, .slice A' hs'.length c', .slice xA tol.length xc, .int .i64 tol.length, .func (.func 27) #[] #[.pointer (some ⟨W.heap.size + 1, 0, none⟩)], .agg #[.int .i64 x.val.fst, .int .i64 x.val.snd], .slice xA tol.length xc, .pointer (some ⟨Bx, 0, none⟩), .int .i64 x.val.fst, .int .i64 (-x.val.fst), .pointer (some ⟨Bx, 1, none⟩), .int .i64 x.val.snd, .agg #[.int .i64 (-x.val.fst), .int .i64 x.val.snd], .slice A7 back.length c7, .agg #[.slice A0 tol.length c0, .int .i64 slack], .slice A7 back.length c7, .bool true, .bool false, .tuple #[.int .i64 ((f' (.int .i64 (keyS back))).getD 0), .bool false], .map (some (w.heap.size + 1)), .slice A7 back.length c7, .int .i64 (keyS back), .tuple #[.int .i64 ((f' (.int .i64 (keyS back))).getD 0), .bool false], .int .i64 ((f' (.int .i64 (keyS back))).getD 0), .bool false, .bool false, .bool true, .map (some (w.heap.size + 1)), .slice A7 back.length c7, .int .i64 (keyS back), .map (some (w.heap.size + 1)), .slice xA tol.length xc, .int .i64 (keyS at_), .int .i64 d, .int .i64 (IntKind.i64.wrap ((d : Int) + 1)), undef, undef, undef, undef, undef], defers := [] } ∧ WW = W4 N) ?_ ?_
                · gi_region_with_o (refine ⟨trivial, ?_⟩; gi_at_call 15; (first | ((with_reducible refine gate_arg (.slice xA tol.length xc) ?_); refine (CallsIn.inRound l (callsIn_wide.2 (HCA.out _ ?hw))).mono ?_) | ((with_reducible refine gate_arg (.slice A7 back.length c7) ?_); refine (CallsIn.inRound l (callsIn_wide.2 (HCB.out _ ?hw))).mono ?_)); (case hw => rfl); rintro e w4 ⟨rfl, ⟨⟨nd, rfl⟩⟩⟩)
                  all_goals exact ⟨_, rfl, rfl⟩
                · rintro a' W5 ⟨N5, rfl, rfl⟩
                  obtain ⟨_, hM5, hg5⟩ := HW4.out N5
                  obtain ⟨W5, hW5⟩ : ∃ W5, W4 N5 = W5 := ⟨_, rfl⟩
                  rw [hW5] at hM5 hg5 ⊢
                  have hg5' : w3.grownBy W5 (some (w.heap.size + 1)) := ⟨hg5.os, hg5.tape, hg5.output, hg5.size, hg5.block⟩
                  have hF3' := HF3.out
                  have hM3 := hF3'.2.2.2.1.block
                  have hF5 := hF3'.map hg5' hM5
                  have e43 : w3.heap[W1.heap.size + 1 + 1]? = some (.cells #[v4] 53 (0, 0)) := (hB9.block _ (heap_lt hT4)).trans hT4
                  have keep5 : ∀ {k : Nat} {cells : Array Value} {t : Nat}, W'.heap[k]? = some (.cells cells t (0, 0)) → W5.heap[k]? = some (.cells cells t (0, 0)) := fun {k cells t} e => by
                    have e3 := (hB9.block _ (heap_lt e)).trans e
                    exact (hg5'.block k (heap_lt e3) (fun e2 => cells_ne e3 hM3 (by cases e2; rfl))).trans e3
                  have e4 := keep5 hT4
                  obtain ⟨A4, c4, rfl, hnc4⟩ := Kd.Q_slice HQ4.out
                  have hc4 : W5.cell? ⟨W1.heap.size + 1 + 1, 0, none⟩ = some (.slice A4 hs4.length c4) := blk_cell e4 0
                  have hfz45 : W5.frozen? ⟨W1.heap.size + 1 + 1, 0, none⟩ = false := by simp [World.frozen?, e4]
                  have hlt45 : W1.heap.size + 1 + 1 < W5.heap.size := heap_lt e4
                  have hQ5 : Kd.Q kSV 22 W5 w.heap.size (fun k => some k ≠ some W.heap.size) (.slice A4 hs4.length c4) hs4 := by
                    have hq3 := Kd.Q_bound (Kd.Q_below HQ4.out hB9)
                    refine Kd.Q_mono (Kd.Q_move hq3 (fun k hk => ?_)) (fun k hk => hk.1)
                    obtain ⟨_, _, a, q, _, cells, e⟩ := hk
                    exact hg5'.block k a (fun e2 => cells_ne e hM3 (by cases e2; rfl))
                  have hlq : hs4.length < 500000 := by have := HL4.out; omega
                  have e5 := keep5 h5'
                  have e5b := keep5 h5b
                  obtain ⟨v6, W6, hrun6, hQ6, hB6, hg6, hat6⟩ := Kd.Q_run (P := Try.prog) kSV (w0 := w) (W := W5) w.heap.size 53 53 22 (.slice none 0 0) 24 Try.underlying53 info22 rfl (by decide) (by decide) _ hs4 ((A7, back.length, c7) : SV) [.slice A7 back.length c7] (fun k => some k ≠ some W.heap.size) (fun _ => False) rfl (fun _ h => h.elim) (fun k hk e => by cases e; have := heap_lt e5; omega) hQ5 hF5.1 hF5.1.size (by omega)
                  obtain ⟨A6, c6, rfl, hnc6⟩ := Kd.Q_slice hQ6
                  have hrun6' : (Builtin.append_ #[53, 53] 53 #[.slice A4 hs4.length c4, .slice (some ⟨W5.heap.size, 0, none⟩) 1 1]).run Try.prog (W5.alloc (.cells #[.slice A7 back.length c7] 22)) = .ok (.slice A6 (hs4 ++ [((A7, back.length, c7) : SV)]).length c6) W6 := hrun6
                  have e46 : W6.heap[W1.heap.size + 1 + 1]? = some (.cells #[.slice A4 hs4.length c4] 53 (0, 0)) := (hg6.block _ (heap_lt e4) (Kd.Q_ne hQ5 e4 (by decide))).trans e4
                  have hc46 : W6.cell? ⟨W1.heap.size + 1 + 1, 0, none⟩ = some (.slice A4 hs4.length c4) := blk_cell e46 0
                  have hfz46 : W6.frozen? ⟨W1.heap.size + 1 + 1, 0, none⟩ = false := by simp [World.frozen?, e46]
                  have HG6 := Aside0.mk hg6
                  have HAT6 := Aside0.mk hat6
                  have HQ6 := Aside0.mk hQ6
                  clear hrun6 hat6 hQ6
                  gi_wp2_with (gi_at_builtin; refine wpListIn_append_run rfl (.tmp 59) (.tmp 61) 53 rfl _ _ _ rfl rfl hrun6' ?_)
                  have hg4 : W1.heap.size + 1 + 1 ≠ W.heap.size := by omega
                  have keep6 : ∀ {k : Nat} {cells : Array Value} {t : Nat}, W5.heap[k]? = some (.cells cells t (0, 0)) → t ≠ 22 → W6.heap[k]? = some (.cells cells t (0, 0)) := fun {k cells t} e ht => (HG6.out.block _ (heap_lt e) (Kd.Q_ne hQ5 e (fun e2 => ht e2.symm))).trans e
                  have sc : ∀ (u : Value) (k : Nat), k ≠ W1.heap.size + 1 + 1 → (W6.setCell ⟨W1.heap.size + 1 + 1, 0, none⟩ u).heap[k]? = W6.heap[k]? := fun u k hk => Below.heap_setCell W6 _ u k hk
                  have e56 : W6.heap[W.heap.size]? = some (.cells #[.slice xA tol.length xc] 22 (0, 0)) := (HG6.out.block _ (heap_lt e5) (Kd.Q_away hQ5 (fun k hk e => hk (by rw [e])))).trans e5
                  have hS5 : Sees w.heap.size W5 (xA, tol.length, xc) at_ := (HS'.out.below hB9).move hg5'.size (fun k hk hk2 => by
                    rcases hk2 with hk2 | ⟨cells, t, e, _⟩
                    · exact hg5'.block k hk (fun e2 => by cases e2; omega)
                    · exact hg5'.block k hk (fun e2 => cells_ne e hM3 (by cases e2; rfl)))
                  have hS7 : Sees w.heap.size W5 (A7, back.length, c7) back := (HS7.out.below hB8).move hg5'.size (fun k hk hk2 => by
                    rcases hk2 with hk2 | ⟨cells, t, e, _⟩
                    · exact hg5'.block k hk (fun e2 => by cases e2; omega)
                    · exact hg5'.block k hk (fun e2 => cells_ne e hM3 (by cases e2; rfl)))
                  have hsee5 : ∀ (i : Nat) (x : SV) (l : List Int), hs4[i]? = some x → todo'[i]? = some l → Sees w.heap.size W5 x l := fun i x l a b => ((Hsee4.out i x l a b).below hB9).move hg5'.size (fun k hk hk2 => by
                    rcases hk2 with hk2 | ⟨cells, t, e, _⟩
                    · exact hg5'.block k hk (fun e2 => by cases e2; omega)
                    · exact hg5'.block k hk (fun e2 => cells_ne e hM3 (by cases e2; rfl)))
                  have hF6 := hF5.push (by omega) (by omega) hS7 e4 hQ5 HL4.out hsee5 HQ6.out HG6.out
                  have hb6 := Kd.Q_base hQ5
                  have hF6' : FarW w W1.heap.size (W1.heap.size + 1 + 1) (some W.heap.size) A0 c0 tol slack (updL f' (.int .i64 (keyS back)) ((d : Int) + 1)) (seen' ++ [back]).length (todo' ++ [back]) (W6.setCell ⟨W1.heap.size + 1 + 1, 0, none⟩ (.slice A6 (hs4.length + 1) c6)) := by
                    have h := hF6
                    rw [List.length_append] at h ⊢
                    exact h
                  have hlt5 := heap_lt e5
                  have hlt5' := heap_lt h5'
                  have hb7 : W'.heap.size ≤ W5.heap.size := Nat.le_trans hB9.size hg5'.size
                  refine ⟨?_, ?_, seen' ++ [back], todo' ++ [back], fun s => if s = back then some (d + 1) else g' s, _, hF6', (sc _ _ (by omega)).trans e56, (sc _ _ (by omega)).trans (keep6 e5b (by decide)), ?_, ?_, ?_, ?_, ?_⟩
                  · refine (keepsFrom_below hB9).trans ((KeepsFrom.of_grownBy hg5' (fun j e => by cases e; omega)).trans (KeepsFrom.trans (Y := W6) ⟨HG6.out.size, fun k o hB hk ho => ?_⟩ ((KeepsOthers.setCell _ _ _).from _)))
                    exact (HG6.out.block k (heap_lt hk) (fun e2 => by
                      obtain ⟨cs, e3⟩ := Kd.Q_typed hQ5 k e2.symm
                      rw [hk] at e3
                      cases e3
                      cases ho)).trans hk
                  · exact ((sc _ _ (by omega)).trans (keep6 e5b (by decide))).trans h5b.symm
                  · refine (hS5.move HG6.out.size (fun k hk hk2 => ?_)).move (W1 := W6.setCell _ _) (by simp) (fun k hk hk2 => sc _ k ?_)
                    · rcases hk2 with hk2 | ⟨cells, t, e, rfl⟩
                      · exact HG6.out.block k hk (fun e2 => by have := hb6 k e2.symm; omega)
                      · exact (keep6 e (by decide)).trans e.symm
                    · rcases hk2 with hk2 | ⟨cells, t, e, rfl⟩
                      · omega
                      · rintro rfl
                        rw [e46] at e
                        cases e
                  · refine hD'.move (fun D hDm => ?_)
                    have e := (hD'.2 D hDm).2
                    have e3 := (hB9.block D (heap_lt e)).trans e
                    have e5D : W5.heap[D]? = _ := (hg5'.block D (heap_lt e3) (fun e2 => by
                      obtain ⟨es, ck, e4⟩ := hM3
                      cases e2
                      rw [e3] at e4
                      cases e4)).trans e3
                    have e6D : W6.heap[D]? = _ := (HG6.out.block D (heap_lt e5D) (fun e2 => by
                      obtain ⟨cs, e4⟩ := Kd.Q_typed hQ5 D e2.symm
                      rw [e5D] at e4
                      cases e4)).trans e5D
                    refine ((sc _ D ?_).trans e6D).trans e.symm
                    rintro rfl
                    rw [e46] at e6D
                    cases e6D
                  · have hm := farM_new Hfg.out (b := back) HOK.out (d + 1)
                    exact hm
                  · have h := HRn.out.new x.1 x.2 (by rw [HBK.out]; exact HOK.out) (by rw [HBK.out]; exact hgb)
                    rw [HBK.out] at h
                    rw [List.map_append]
                    exact h
                  · have h := seen_bound hn5 _ (HRn.out.new x.1 x.2 (by rw [HBK.out]; exact HOK.out) (by rw [HBK.out]; exact hgb)).nodup (HRn.out.new x.1 x.2 (by rw [HBK.out]; exact HOK.out) (by rw [HBK.out]; exact hgb)).ok
                    simp only [List.length_append, List.length_cons, List.length_nil] at h ⊢
                    omega
          · have hob' : okL slack none tol back = false := by simpa using hob
            rw [hob'] at H18
            have HOB := Go.Lib.hid hob'
            clear hob hob'
            gi_wp2_with (first
              | (refine ⟨trivial, ?_⟩; gi_at_call 17; refine (CallsIn.inRound l (callsIn_wide.2 H17.out)).mono ?_; rintro e w2 ⟨v7, rfl, hR7, hB7⟩; obtain ⟨A7, c7, rfl, hS7⟩ := Sees.ofR' (B := w.heap.size) hR7; have HS7 := Aside0.mk hS7; have hF2 := HF'.out.below hB7; have hP2 := hF2.2.1; have hcp_0 : w2.cell? ⟨w.heap.size, 0, none⟩ = some (.slice A0 tol.length c0) := blk_cell hP2 0; have hcp_1 : w2.cell? ⟨w.heap.size, 1, none⟩ = some (.int .i64 slack) := blk_cell hP2 1; have HF2 := Aside0.mk hF2; clear hR7 hS7 hF2 hP2)
              | (refine ⟨trivial, ?_⟩; gi_at_call 18; refine (CallsIn.inRound l (callsIn_wide.2 (passes_puzzle_ok.calls 100 _ _ tol slack _ _ back false _ ?s1 HC.out ?s2 HS7.out.2.1 H18.out))).mono ?_; (case s1 => exact C_blocks HR.out HF2.out.1.block); (case s2 => exact HS7.out.C); rintro e w3 ⟨rfl, hB8⟩))
            have hB9 : Below W'.heap.size W' w3 := hB7.trans (hB8.mono hB7.size)
            refine ⟨keepsFrom_below hB9, hB9.block _ (heap_lt h5b), seen', todo', g', f', HF'.out.below hB9, (hB9.block _ (heap_lt h5')).trans h5', (hB9.block _ (heap_lt h5b)).trans h5b, HS'.out.below hB9, hD'.below hB9, Hfg.out, ?_, hm'⟩
            rw [List.map_append]
            refine HRn.out.skip x.1 ?_
            rw [HBK.out]
            rintro ⟨_, h⟩
            rw [HOB.out] at h
            cases h
        case done =>
          intro D xs W' hD' hxs hI hK
          gi_wp2
          obtain ⟨seen2, todo2, g2, f2, i1, i2, i2b, i3, i4, i5, i6, i7⟩ := hI
          rw [hxs, ← HL5.out] at i6
          have i6' : Rnd tol slack g2 seen2 todo2 at_ d (allP tol.length) := by rw [HL5.out] at i6; exact i6
          refine ⟨2 * (248832 - seen2.length) + todo2.length, by omega, _, _, _, _, _, _, _, _, _, _, _, _, D :: Ds, seen2, todo2, g2, f2, rfl, i1.any, i6'.done_, i5, ⟨List.nodup_cons.2 ⟨fun hm => ?_, i4.1⟩, fun D' hDm => ?_⟩, rfl, by omega⟩
          · have := hDlt D hm; omega
          · rcases List.mem_cons.1 hDm with rfl | hDm
            · exact ⟨by omega, hK⟩
            · exact i4.2 D' hDm
        case stop => exact fun _ _ _ _ _ _ h _ => h.elim

theorem far_calls (A0 : Option Addr) (c0 : Nat) (tol : List Int) (slack : Int) (w : World) (hr0 : Kd.C (Kd.int .i64) w A0 tol.length tol) (hc0 : tol.length ≤ c0) (hok : Ok tol slack tol) (hn1 : 1 ≤ tol.length) (hn5 : tol.length ≤ 5) :
    Calls Try.prog 14 #[.agg #[.slice A0 tol.length c0, .int .i64 slack]] w (FarR tol slack w) := callsIn_wide.1 (far_in A0 c0 tol slack w hr0 hc0 hok hn1 hn5)
#print axioms far_calls
end Go.Proofs.Ytehchpjjcohecaa.X
