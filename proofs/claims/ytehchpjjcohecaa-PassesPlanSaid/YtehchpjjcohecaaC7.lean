import Derived.Test.YtehchpjjcohecaaC7b
/- passes.Plan -/
namespace Go.Proofs.Ytehchpjjcohecaa.X
open Go.RowKit Go.Shelf Go.Maps Go.WideMaps Go.WideElems Go.Proofs.YtehchpjjcohecaaW.PrintWords Go.Proofs.YtehchpjjcohecaaW.PrintLast Go.Proofs.YtehchpjjcohecaaW.PrintMore
set_option linter.unusedVariables false
set_option linter.unusedSimpArgs false
attribute [local go_sem] Oper.semAt_some

def PlanR (src tol : List Int) (slack : Int) (w : World) (e : Ending) (w' : World) : Prop :=
  ∃ v0_ : Value, e = .returned (.tuple #[v0_, .int .i64 (planR src tol slack).2]) ∧ Kd.R k43 43 w' w.heap.size (fun _ => True) v0_ (planR src tol slack).1 ∧ Below w.heap.size w w'

def planFrame (A0 : Option Addr) (c0 : Nat) (src : List Int) (A1 : Option Addr) (c1 : Nat) (tol : List Int) (slack : Int) (g9 g10 M g11 g13 : Nat) (d0 : Nat) (u14 u41 u42 u43 u44 u45 u46 u47 u76 : Value) : Array Value :=
  #[.slice A0 src.length c0, .slice A1 tol.length c1, .int .i64 slack, undef, undef, undef, .slice none 0 0, .int .i64 0, .int .i64 0, .pointer (some ⟨g9, 0, none⟩), .pointer (some ⟨g10, 0, none⟩), .pointer (some ⟨g11, 0, none⟩), .bool true, .pointer (some ⟨g13, 0, none⟩), u14, undef, undef, undef, undef, .slice A0 src.length c0, .slice A1 tol.length c1, .int .i64 slack, .int .i64 0, .int .i64 0, .bool false, undef, .slice A1 tol.length c1, .int .i64 slack, .agg #[.slice A1 tol.length c1, .int .i64 slack], .agg #[.slice A1 tol.length c1, .int .i64 slack], .map (some M), .tuple #[.int .i64 d0, .bool true], .map (some M), .slice A0 src.length c0, .int .i64 (keyS src), .tuple #[.int .i64 d0, .bool true], .int .i64 d0, .bool true, .bool true, .bool false, .slice A0 src.length c0, u41, u42, u43, u44, u45, u46, u47, undef, undef, undef, undef, undef, undef, undef, undef, undef, undef, undef, undef, undef, undef, undef, undef, undef, undef, undef, undef, undef, undef, undef, undef, undef, undef, undef, undef, u76, undef]
def PlanI (w : World) (A0 : Option Addr) (c0 : Nat) (src : List Int) (A1 : Option Addr) (c1 : Nat) (tol : List Int) (slack : Int) (g9 g10 M g11 g13 : Nat) (d0 cnt : Nat) (f : Lit → Option Int) (m : Nat) (a : Act) (W : World) : Prop :=
  ∃ (u41 u42 u43 u44 u45 u46 u47 u76 : Value) (g14 : Nat) (xA : Option Addr) (xc : Nat) (s : List Int) (acc : List S43) (Ds : List Nat), a = { tmps := planFrame A0 c0 src A1 c1 tol slack g9 g10 M g11 g13 d0 (.pointer (some ⟨g14, 0, none⟩)) u41 u42 u43 u44 u45 u46 u47 u76, defers := Ds.map mark } ∧
    PlanW w g9 g10 M g11 g13 A1 c1 tol slack cnt f m acc W ∧ AtW w g11 g14 xA tol.length xc s W ∧ Marks w.heap.size W Ds ∧ s.length = tol.length ∧ Ok tol slack s ∧ dist tol slack s = some m ∧ acc ++ (planS tol slack m s).map toP = (planS tol slack d0 src).map toP ∧ g13 < g14 ∧ m ≤ 300000 ∧ acc.length + m ≤ 300000

/-- Between two passes that are tried. -/
def PlanP (w : World) (g9 g10 M g11 g13 g14 Bn : Nat) (A1 : Option Addr) (c1 : Nat) (tol : List Int) (slack : Int) (cnt : Nat) (f : Lit → Option Int) (m : Nat) (acc : List S43) (xA : Option Addr) (xc : Nat) (s : List Int) (Ds : List Nat) (pre : List (PN tol.length)) (W : World) : Prop :=
  PlanW w g9 g10 M g11 g13 A1 c1 tol slack cnt f ((m + 1 : Nat) : Int) acc W ∧ AtW w g11 g14 xA tol.length xc s W ∧ Marks w.heap.size W Ds ∧ W.heap[Bn]? = some (.cells #[.int .i64 tol.length] 3 (0, 0)) ∧ ∀ p ∈ pre, good tol slack m s p.1 = false
/-- One has been found. -/
def PlanX (w : World) (g9 g10 M g11 g13 g14 : Nat) (A1 : Option Addr) (c1 : Nat) (tol : List Int) (slack : Int) (cnt : Nat) (f : Lit → Option Int) (m : Nat) (acc : List S43) (s : List Int) (Ds : List Nat) (c : Code) (pre : List (PN tol.length)) (W : World) : Prop :=
  c = .exit 2 ∧ ∃ (pre0 : List (PN tol.length)) (x : PN tol.length) (xA : Option Addr) (xc : Nat), pre = pre0 ++ [x] ∧ (∀ p ∈ pre0, good tol slack m s p.1 = false) ∧ good tol slack m s x.1 = true ∧
    PlanW w g9 g10 M g11 g13 A1 c1 tol slack cnt f ((m + 1 : Nat) : Int) (acc ++ [toP x.1]) W ∧ AtW w g11 g14 xA tol.length xc (mv x.1 s) W ∧ Marks w.heap.size W Ds
theorem PlanP.noncells {w : World} {g9 g10 M g11 g13 g14 Bn : Nat} {A1 : Option Addr} {c1 : Nat} {tol : List Int} {slack : Int} {cnt : Nat} {f : Lit → Option Int} {m : Nat} {acc : List S43} {xA : Option Addr} {xc : Nat} {s : List Int} {Ds : List Nat} {B' : Nat}
    (hB : w.heap.size ≤ B') (hM : M < B') (hDs : ∀ D ∈ Ds, D < B') : OwnFrom B' (PlanP w g9 g10 M g11 g13 g14 Bn A1 c1 tol slack cnt f m acc xA xc s Ds) := by
  rintro pre W W' row ⟨h1, h2, h3, h4, h5⟩ hg hr
  exact ⟨h1.noncells hg hB hM hr, h2.noncells hg hB hr, h3.noncells hg hDs hr, (noncells_keep hg hr h4).trans h4, h5⟩
theorem PlanX.noncells {w : World} {g9 g10 M g11 g13 g14 : Nat} {A1 : Option Addr} {c1 : Nat} {tol : List Int} {slack : Int} {cnt : Nat} {f : Lit → Option Int} {m : Nat} {acc : List S43} {s : List Int} {Ds : List Nat} {B' : Nat}
    (hB : w.heap.size ≤ B') (hM : M < B') (hDs : ∀ D ∈ Ds, D < B') : ∀ c, OwnFrom B' (PlanX w g9 g10 M g11 g13 g14 A1 c1 tol slack cnt f m acc s Ds c) := by
  rintro c pre W W' row ⟨h0, pre0, x, xA, xc, h1, h2, h3, h4, h5, h6⟩ hg hr
  exact ⟨h0, pre0, x, xA, xc, h1, h2, h3, h4.noncells hg hB hM hr, h5.noncells hg hB hr, h6.noncells hg hDs hr⟩

set_option maxRecDepth 100000 in
set_option maxHeartbeats 8000000 in
theorem plan_in (A0 : Option Addr) (c0 : Nat) (src : List Int) (A1 : Option Addr) (c1 : Nat) (tol : List Int) (slack : Int) (w : World) (hr0 : Kd.C (Kd.int .i64) w A0 src.length src) (hc0 : src.length ≤ c0) (hr1 : Kd.C (Kd.int .i64) w A1 tol.length tol) (hc1 : tol.length ≤ c1) :
    CallsIn Fence.wide 11 Try.prog 7 #[.slice A0 src.length c0, .slice A1 tol.length c1, .int .i64 slack] w (PlanR src tol slack w) := by
  have hw := wrong_f src tol slack 100 (by omega)
  have HW := Aside0.mk hw
  have HR0 := Aside0.mk hr0
  have HC0 := Aside0.mk hc0
  have HR1 := Aside0.mk hr1
  have HC1 := Aside0.mk hc1
  clear hw hr0 hc0 hr1 hc1
  by_cases hwr : wrongS src tol slack = 0
  · rw [hwr] at HW
    obtain ⟨hs1, hs5, hsl, hk1, hk12, hoks, hokt⟩ := wrong_ok hwr
    have HSL := Go.Lib.hid hsl
    have htl1 : 1 ≤ tol.length := by omega
    have htl5 : tol.length ≤ 5 := by omega
    have HWR := Go.Lib.hid hwr
    clear hwr hsl
    refine callsIn_of_wp_marks Try.func7 rfl trivial ?_ rfl
    simp only [Try.ntmps7, List.size_toArray, List.length_cons, List.length_nil, Nat.reduceAdd, Nat.reduceSub, Array.replicate_succ, Array.replicate_zero, List.push_toArray, List.append_toArray, List.nil_append, List.cons_append]
    have HB0 := Aside0.mk (Below.refl w.heap.size w)
    gi_wp2_with (first
      | (refine ⟨trivial, ?_⟩; gi_at_call 8; refine (callsIn_wide.2 (passes_Wrong.calls 100 _ _ src _ _ tol slack _ _ HR0.out HC0.out HR1.out HC1.out HW.out)).mono ?_; rintro e w1 ⟨rfl, hB1⟩)
      | (refine ⟨trivial, ?_⟩; gi_at_call 14; refine (callsIn_wide.2 (far_calls A1 c1 tol slack _ ?s1 HC1.out hokt htl1 htl5)).mono ?_; (case s1 => exact Kd.C_below (Kd.C_below HR1.out hB1) ((Below.refl _ _).alloc (Nat.le_refl _) _)); rintro e w2 ⟨rfl, hM2, hB2⟩))
    obtain ⟨cnt, f, hM2, hf2⟩ := hM2
    rw [World.size_alloc] at hM2 hB2
    obtain ⟨W2, hW2⟩ : ∃ W2, w2.alloc (.cells #[.map (some (w1.heap.size + 1 + 1))] 36) = W2 := ⟨_, rfl⟩
    rw [hW2]
    have hs2 : W2.heap.size = w2.heap.size + 1 := by rw [← hW2]; simp
    have hBa : Below w.heap.size w W2 := by
      rw [← hW2]
      exact ((hB1.trans (((Below.refl _ _).alloc (Nat.le_refl _) _).mono hB1.size)).trans (hB2.mono (by have := hB1.size; omega))).alloc (by have := hB1.size; have := hB2.size; simp at this; omega) _
    have g9 : W2.heap[w1.heap.size]? = some (.cells #[.slice A1 tol.length c1, .int .i64 slack] 35 (0, 0)) := by
      rw [← hW2]
      exact (Below.heap_alloc _ _ _ (by have := hB2.size; simp at this; omega)).trans ((hB2.block _ (by omega)).trans (World.alloc_heap_new w1 _))
    have g10 : W2.heap[w2.heap.size]? = some (.cells #[.map (some (w1.heap.size + 1 + 1))] 36 (0, 0)) := by rw [← hW2]; exact World.alloc_heap_new w2 _
    have hM : MapL Try.prog 3 3 W2 (w1.heap.size + 1 + 1) cnt f := by rw [← hW2]; exact hM2.same (Below.heap_alloc _ _ _ hM2.lt)
    have hwle := hB1.size
    have hlt9 : w1.heap.size < w2.heap.size := by have := hB2.size; simp at this; omega
    have hMlt : w1.heap.size + 1 + 1 < w2.heap.size := hM2.lt
    have hc10 : W2.cell? ⟨w2.heap.size, 0, none⟩ = some (.map (some (w1.heap.size + 1 + 1))) := blk_cell g10 0
    have hks := hoks.key_range htl5
    have H15 := Aside0.mk (key_f src hoks.range hs5 100 (by omega))
    have hmx : Try.prog.follows .mixedOrders = true := by kernel_rfl
    obtain ⟨dn, sn, hdn⟩ : ∃ (dn : Int) (sn : Bool), dn = (f (.int .i64 (keyS src))).getD 0 ∧ sn = (f (.int .i64 (keyS src))).isSome := ⟨_, _, rfl, rfl⟩
    have hlk : ∀ w5 : World, w5.heap[w1.heap.size + 1 + 1]? = W2.heap[w1.heap.size + 1 + 1]? → (Instr.lookup 36 (.map (some (w1.heap.size + 1 + 1))) (.int .i64 (keyS src)) true).run Try.prog w5 = .ok (.tuple #[.int .i64 dn, .bool sn]) w5 := fun w5 h5 => by
      rw [hdn.1, hdn.2]
      exact (hM.same h5).look (int_keyed Try.underlying3) Try.underlying36 Try.underlying3 (Try.zeroValue3 _) (keyOf_int_mk Try.underlying3 (wf64 (by omega) (by omega))) trivial
    have hl1 := fun n => hlk (W2.drewN n) rfl
    have hl2 := fun n o => hlk ((W2.alloc o).drewN n) (Below.heap_alloc _ _ _ hM.lt)
    have hl3 := fun n o => hlk ((W2.drewN n).alloc o) (Below.heap_alloc (W2.drewN n) _ _ hM.lt)
    have hl4 := fun n o m => hlk (((W2.drewN n).alloc o).drewN m) (Below.heap_alloc (W2.drewN n) _ _ hM.lt)
    have hl5 := fun o => hlk (W2.drew.alloc o) (Below.heap_alloc W2.drew _ _ hM.lt)
    have hl6 := fun o m => hlk ((W2.drew.alloc o).drewN m) (Below.heap_alloc W2.drew _ _ hM.lt)
    have HDN := Aside0.mk hdn
    have HS2 := Go.Lib.hid hs2
    have hs2lt : w2.heap.size < W2.heap.size := by omega
    have HM := Aside0.mk hM
    have HF2 := Aside0.mk hf2
    have HC15 : Aside0 (∀ w5 : World, Below W2.heap.size W2 w5 → Calls Try.prog 15 #[.slice A0 src.length c0] w5 fun e w' => e = .returned (.int .i64 (keyS src)) ∧ Drawn0 w5 w') :=
      ⟨fun w5 h5 => passes_key.calls 100 A0 c0 src (keyS src) w5 (C_blocks HR0.out (fun k hk => (h5.block k (by have := hBa.size; omega)).trans (hBa.block k hk))) HC0.out H15.out⟩
    clear hlk hdn hM hf2
    refine region_cut (R := fun aa WW => aa = { tmps := #[.slice A0 src.length c0, .slice A1 tol.length c1, .int .i64 slack, undef, undef, undef, .slice none 0 0, .int .i64 0, .int .i64 0, .pointer (some ⟨w1.heap.size, 0, none⟩), .pointer (some ⟨w2.heap.size, 0, none⟩), .pointer (some ⟨w2.heap.size + 1, 0, none⟩), .bool sn, undef, undef, undef, undef, undef, undef, .slice A0 src.length c0, .slice A1 tol.length c1, .int .i64 slack, .int .i64 0, .int .i64 0, .bool false, undef, .slice A1 tol.length c1, .int .i64 slack, .agg #[.slice A1 tol.length c1, .int .i64 slack], .agg #[.slice A1 tol.length c1, .int .i64 slack], .map (some (w1.heap.size + 1 + 1)), .tuple #[.int .i64 dn, .bool sn], .map (some (w1.heap.size + 1 + 1)), .slice A0 src.length c0, .int .i64 (keyS src), .tuple #[.int .i64 dn, .bool sn], .int .i64 dn, .bool sn, undef, undef, undef, undef, undef, undef, undef, undef, undef, undef, undef, undef, undef, undef, undef, undef, undef, undef, undef, undef, undef, undef, undef, undef, undef, undef, undef, undef, undef, undef, undef, undef, undef, undef, undef, undef, undef, undef, undef, undef], defers := [] } ∧ Below W2.heap.size W2 WW ∧ WW.heap[W2.heap.size]? = some (.cells #[.int .i64 dn] 3 (0, 0)) ∧ WW.heap.size = W2.heap.size + 1) ?_ ?_
    · gi_region_with_o (refine ⟨trivial, ?_⟩; gi_at_call 15; refine (callsIn_wide.2 (HC15.out _ ?hw)).mono ?_; (case hw => (repeat (first | exact Below.refl _ _ | apply below_drew | apply pw_below_drewN | apply below_alloc))); rintro e w4 ⟨rfl, ⟨⟨nd, rfl⟩⟩⟩)
      all_goals
        refine ⟨rfl, ?_, ?_, ?_⟩
        · repeat (first | exact Below.refl _ _ | apply below_drew | apply pw_below_drewN | apply below_alloc | (refine below_set ?_ (Nat.le_of_eq HS2.out)))
        · first
            | exact World.alloc_heap_new (W2.drewN _) _
            | (rw [HS2.out]; exact blk_put (cs := #[.int .i64 0]) (show ((W2.alloc _).drewN _).heap[w2.heap.size + 1]? = _ from by rw [← HS2.out]; exact World.alloc_heap_new W2 _) 0 _ rfl)
        · simp
    · rintro a' W4 ⟨rfl, hB4, g11, hs4⟩
      clear hl1 hl2 hl3 hl4 hl5 hl6
      have hfs : f (.int .i64 (keyS src)) = (dist tol slack src).map Int.ofNat := (HF2.out src hoks).1
      cases hdist : dist tol slack src with
      | none =>
        rw [hdist] at hfs
        obtain ⟨rfl, rfl⟩ : dn = 0 ∧ sn = false := by
          obtain ⟨h1, h2⟩ := HDN.out
          rw [hfs] at h1 h2
          exact ⟨h1, h2⟩
        have HP : Aside0 (planR src tol slack = ([], 6)) := ⟨by unfold planR; rw [if_neg (by rw [HWR.out]; simp), hdist]⟩
        clear hfs hdist
        gi_wp2
        refine ⟨_, results_tmp2 rfl _ _ _, .slice none 0 0, by rw [HP.out]; rfl, by rw [HP.out]; exact Kd.R_nil _ _ _ _ _, hBa.trans (hB4.mono hBa.size)⟩
      | some d =>
        rw [hdist] at hfs
        obtain ⟨rfl, rfl⟩ : dn = (d : Int) ∧ sn = true := by
          obtain ⟨h1, h2⟩ := HDN.out
          rw [hfs] at h1 h2
          exact ⟨h1, h2⟩
        have HP : Aside0 (planR src tol slack = ((planS tol slack d src).map toP, 0)) := ⟨by unfold planR; rw [if_neg (by rw [HWR.out]; simp), hdist]⟩
        have HDS := Go.Lib.hid hdist
        clear hfs hdist
        gi_wp2
        have hd0 : d ≤ 248832 := Nat.le_of_lt ((HF2.out src hoks).2 d HDS.out)
        obtain ⟨b9, hb9⟩ : ∃ g, w1.heap.size = g := ⟨_, rfl⟩
        obtain ⟨b10, hb10⟩ : ∃ g, w2.heap.size = g := ⟨_, rfl⟩
        have HBa := Aside0.mk hBa
        have e4 : W4.heap.size = b10 + 2 := by omega
        have e9 : W4.heap[b9]? = some (.cells #[.slice A1 tol.length c1, .int .i64 slack] 35 (0, 0)) := by rw [← hb9]; exact (hB4.block _ (by omega)).trans g9
        have e10 : W4.heap[b10]? = some (.cells #[.map (some (b9 + 1 + 1))] 36 (0, 0)) := by rw [← hb9, ← hb10]; exact (hB4.block _ (by omega)).trans g10
        have e11 : W4.heap[b10 + 1]? = some (.cells #[.int .i64 d] 3 (0, 0)) := by rw [← hb10, ← HS2.out]; exact g11
        have eM : MapL Try.prog 3 3 W4 (b9 + 1 + 1) cnt f := by rw [← hb9]; exact HM.out.same (hB4.block _ HM.out.lt)
        have hB0 : Below w.heap.size w W4 := hBa.trans (hB4.mono hBa.size)
        rw [hb9, hb10]
        have hbM : b9 + 1 + 1 < b10 := by omega
        have hbw : w.heap.size ≤ b9 := by omega
        clear hW2 hB1 hB2 g9 g10 g11 hM2 hwle hlt9 hMlt hc10 hs2 hB4 hBa hb9 hb10 hs4 hs2lt HC15 HDN H15 HW hks
        obtain ⟨W5, hW5⟩ : ∃ W5, ((W4.alloc (.cells #[.slice none 0 0] 24)).alloc (.cells #[.slice A0 src.length c0] 22)) = W5 := ⟨_, rfl⟩
        rw [hW5]
        have hB45 : Below W4.heap.size W4 W5 := by rw [← hW5]; exact ((Below.refl _ _).alloc (Nat.le_refl _) _).alloc (by simp) _
        have e13 : W5.heap[b10 + 1 + 1]? = some (.cells #[.slice none 0 0] 24 (0, 0)) := by
          rw [← hW5, ← show W4.heap.size = b10 + 1 + 1 from e4]
          exact (Below.heap_alloc _ _ _ (by simp)).trans (World.alloc_heap_new W4 _)
        have e14 : W5.heap[b10 + 1 + 1 + 1]? = some (.cells #[.slice A0 src.length c0] 22 (0, 0)) := by
          rw [← hW5]
          have h := World.alloc_heap_new (W4.alloc (.cells #[.slice none 0 0] 24)) (.cells #[.slice A0 src.length c0] 22)
          rw [World.size_alloc, e4] at h
          exact h
        have hB05 : Below w.heap.size w W5 := hB0.trans (hB45.mono hB0.size)
        have hP5 : PlanW w b9 b10 (b9 + 1 + 1) (b10 + 1) (b10 + 1 + 1) A1 c1 tol slack cnt f d [] W5 :=
          ⟨hB05, (hB45.block _ (heap_lt e9)).trans e9, (hB45.block _ (heap_lt e10)).trans e10, eM.same (hB45.block _ eM.lt), (hB45.block _ (heap_lt e11)).trans e11, _, e13, Kd.R_nil _ _ _ _ _⟩
        have hA5 : AtW w (b10 + 1) (b10 + 1 + 1 + 1) A0 tol.length c0 src W5 := by
          refine ⟨by rw [← HSL.out]; exact e14, ?_⟩
          rw [← HSL.out]
          exact SeesE.ofC HR0.out HC0.out hB05
        refine wpIn_loop_ghost (PlanI w A0 c0 src A1 c1 tol slack b9 b10 (b9 + 1 + 1) (b10 + 1) (b10 + 1 + 1) d cnt f) d ?start ?round
        case start =>
          exact ⟨undef, undef, undef, undef, undef, undef, undef, undef, b10 + 1 + 1 + 1, A0, c0, src, [], [], rfl, hP5, hA5, ⟨by simp, by simp⟩, HSL.out, hoks, HDS.out, by simp, by omega, by omega, by simp; omega⟩
        case round =>
          clear hP5 hA5 hB05 e14 e13 hB45 hW5 eM e9 e10 e11 hB0
          rintro m a W ⟨u41, u42, u43, u44, u45, u46, u47, u76, g14, xA, xc, s, acc, Ds, rfl, hP, hA, hD, hsl, hos, hds, hpl, h14, hm3, hac⟩
          obtain ⟨p1, p2, p3, p4, p5, v13, p6, p7⟩ := id hP
          have hc11 : W.cell? ⟨b10 + 1, 0, none⟩ = some (.int .i64 m) := blk_cell p5 0
          have hf11 : W.frozen? ⟨b10 + 1, 0, none⟩ = false := by simp [World.frozen?, p5]
          have hc13 : W.cell? ⟨b10 + 1 + 1, 0, none⟩ = some v13 := blk_cell p6 0
          have hc14 : W.cell? ⟨g14, 0, none⟩ = some (.slice xA tol.length xc) := blk_cell hA.1 0
          unfold planFrame
          cases m with
          | zero =>
            gi_wp2
            have hacc : acc = (planS tol slack d src).map toP := by simpa [planS] using hpl
            refine leaves_marks (B := w.heap.size) (fun W' => Below w.heap.size w W' ∧ Kd.R k43 43 W' w.heap.size (fun _ => True) v13 acc) ?_ ?_ Ds W hD ⟨p1, p7⟩
            · rintro W' D o ds ⟨i1, i2⟩ hB hDo
              refine ⟨i1.grown (grownBy_putObj' W' D o) i1.size (fun k e => by cases e; exact hB), ?_⟩
              refine Kd.R_mono (Kd.R_move (Kd.R_bound i2) (fun k hk' => ?_)) (fun k hk' => trivial)
              obtain ⟨_, _, _, q, _, cells, e⟩ := hk'
              refine World.putObj_heap_other (fun e2 => ?_)
              subst e2
              rw [hDo] at e
              cases e
            · rintro W' ⟨i1, i2⟩
              exact ⟨_, results_tmp2 rfl _ _ _, v13, by rw [HP.out]; rfl, by rw [HP.out, ← hacc]; exact i2, i1⟩
          | succ m =>
            have hlt14 := heap_lt hA.1
            have hlt13 := heap_lt p6
            have HPL := Go.Lib.hid hpl
            have HSLS := Go.Lib.hid hsl
            have HDS2 := Go.Lib.hid hds
            clear hpl hsl hds
            gi_wp2_with (refine ⟨trivial, ?_⟩; gi_at_call 16; refine (all_in Fence.wide _ trivial rfl tol.length _).mono ?_; rintro e w' ⟨rfl, rfl⟩)
            have hBn : (W.alloc (.cells #[.int .i64 tol.length] 3)).heap[W.heap.size]? = some (.cells #[.int .i64 tol.length] 3 (0, 0)) := World.alloc_heap_new W _
            have hP3 := hP.below ((Below.refl _ W).alloc (Nat.le_refl _) (.cells #[.int .i64 tol.length] 3))
            have hA3 := hA.below ((Below.refl _ W).alloc (Nat.le_refl _) (.cells #[.int .i64 tol.length] 3))
            have hD3 := hD.below ((Below.refl _ W).alloc (Nat.le_refl _) (.cells #[.int .i64 tol.length] 3))
            have hDlt : ∀ D ∈ Ds, D < (W.alloc (.cells #[.int .i64 tol.length] 3)).heap.size := fun D hD => heap_lt (hD3.2 D hD).2
            have hsz3 : (W.alloc (.cells #[.int .i64 tol.length] 3)).heap.size = W.heap.size + 1 := by simp
            generalize (W.alloc (.cells #[.int .i64 tol.length] 3)) = W3 at *
            refine wpIn_rangeFunc_ownH rfl (by omega) (gf := 27) (lb := #[.pointer (some ⟨W.heap.size, 0, none⟩)]) rfl trivial (enters_of Try.func27 (by kernel_rfl) rfl)
              (all_stops Fence.wide 10 trivial rfl (by omega) W.heap.size tol.length htl1 htl5 W3 (by omega) (by simp [World.cell?, hBn])) (fun h k => KeepB.trans h k) ?hKb (Below.refl _ _) (fun _ => rfl)
              (PlanP w b9 b10 (b9 + 1 + 1) (b10 + 1) (b10 + 1 + 1) g14 W.heap.size A1 c1 tol slack cnt f m acc xA xc s Ds) (PlanX w b9 b10 (b9 + 1 + 1) (b10 + 1) (b10 + 1 + 1) g14 A1 c1 tol slack cnt f m acc s Ds)
              (PlanP.noncells (by omega) (by omega) hDlt) (PlanX.noncells (by omega) (by omega) hDlt) ⟨hP3, hA3, hD3, hBn, by simp⟩
              (fun x a' W' => ∃ Bx, W3.heap.size ≤ Bx ∧ W'.heap[Bx]? = some (.cells #[.int .i64 x.1.1, .int .i64 x.1.2] 43 (0, 0)) ∧ a' = { tmps := ((planFrame A0 c0 src A1 c1 tol slack b9 b10 (b9 + 1 + 1) (b10 + 1) (b10 + 1 + 1) d (.pointer (some ⟨g14, 0, none⟩)) (.int .i64 ((m : Int) + 1)) (.bool true) u43 u44 (.slice xA tol.length xc) (.int .i64 tol.length) (.func (.func 27) #[] #[.pointer (some ⟨W.heap.size, 0, none⟩)]) u76).setIfInBounds 48 (.agg #[.int .i64 x.1.1, .int .i64 x.1.2])).setIfInBounds 15 (.pointer (some ⟨Bx, 0, none⟩)), defers := [] }) ?hAx ?assign ?body ?done ?stop
            case hKb => exact fun W' l o o' hl ho hc hw => World.putObj_heap_other (by omega)
            case hAx =>
              rintro x a' _ W' W'' row ⟨Bx, hBx, hbx, rfl⟩ hg hr
              exact ⟨Bx, hBx, (noncells_keep hg hr hbx).trans hbx, rfl⟩
            case assign =>
              intro l pre x W' K hI hK
              have hle : W3.heap.size ≤ W'.heap.size := by have := heap_lt hI.2.2.2.1; omega
              gi_wp2
              exact hK _ _ ((KeepsOthers.alloc _ _).from _) (show KeepB _ _ _ from Below.heap_alloc _ _ _ (heap_lt hI.2.2.2.1)) ((PlanP.noncells (by omega) (by omega) hDlt).alloc _ hI) ⟨W'.heap.size, hle, World.alloc_heap_new _ _, rfl⟩
            case body =>
              rintro l pre x a' W' hl ⟨rl, hrl⟩ ⟨hP', hA', hD', hBn', hpre⟩ ⟨Bx, hBx, hbx, rfl⟩ hpl'
              obtain ⟨q1, q2, q3, q4, q5, v13', q6, q7⟩ := id hP'
              obtain ⟨hx0, hx1, hx2, hx3, hx4⟩ := (mem_allP _ _).1 x.2
              have hx5 : x.1.2 ≤ 32 := by have := (pow_le tol.length htl5).1; have := (pow_le tol.length htl5).2.2.1; omega
              have hcb_0 : W'.cell? ⟨Bx, 0, none⟩ = some (.int .i64 x.1.1) := blk_cell hbx 0
              have hcb_1 : W'.cell? ⟨Bx, 1, none⟩ = some (.int .i64 x.1.2) := blk_cell hbx 1
              have hcat : W'.cell? ⟨g14, 0, none⟩ = some (.slice xA tol.length xc) := blk_cell hA'.1 0
              have hmv := moved_f x.1 tol.length x.2 htl5 s (by rw [HSLS.out]; exact htl5) hos.range 100 (by omega)
              have hcall17 : Calls Try.prog 17 #[.slice xA tol.length xc, .agg #[.int .i64 x.1.1, .int .i64 x.1.2]] W' fun e w' => ∃ v0_ : Value, e = .returned v0_ ∧ Kd.R (Kd.int .i64) 3 w' W'.heap.size (fun _ => True) v0_ (mv x.1 s) ∧ Below W'.heap.size W' w' := by
                have h := passes_moved.calls 100 xA xc s _ _ (mv x.1 s) W' (by have h := hA'.2.C; exact h) (by have h := hA'.2.2.1; exact h) hmv
                rw [HSLS.out] at h
                exact h
              have H17 := Aside0.mk hcall17
              have HP' := Aside0.mk hP'
              have HA' := Aside0.mk hA'
              have HD' := Aside0.mk hD'
              have HBN' := Aside0.mk hBn'
              have HPRE := Aside0.mk hpre
              have HQ7 := Aside0.mk q7
              obtain ⟨nxt, hnxt⟩ : ∃ nxt, mv x.1 s = nxt := ⟨_, rfl⟩
              have hnl : nxt.length = tol.length := by rw [← hnxt, mv_length]; exact HSLS.out
              rw [hnxt] at H17
              have HNX := Go.Lib.hid hnxt
              have HNL := Go.Lib.hid hnl
              have hnl5 : nxt.length ≤ 5 := by omega
              have H18 := Aside0.mk (ok_f tol nxt slack hnl (by omega) 100 (by omega))
              obtain ⟨kv, hkv, hkw⟩ := key_any nxt hnl5
              have HKV := Aside0.mk hkv
              clear hmv hx4 hcall17 hnxt hnl hkv hP' hA' hD' hBn' hpre q7
              obtain ⟨dn, sn, hdn⟩ : ∃ (dn : Int) (sn : Bool), dn = (f (.int .i64 kv)).getD 0 ∧ sn = (f (.int .i64 kv)).isSome := ⟨_, _, rfl, rfl⟩
              have HDN := Aside0.mk hdn
              clear hdn
              unfold planFrame
              gi_wp2_with (refine ⟨trivial, ?_⟩; gi_at_call 17; refine (CallsIn.inRound l (callsIn_wide.2 H17.out)).mono ?_; rintro e w2 ⟨v16, rfl, hR16, hB16⟩; obtain ⟨A7, c7, rfl, hS7⟩ := SeesE.ofR (B := w.heap.size) (ex := b10 + 1) hR16 (heap_lt q5); have HS7 := Aside0.mk hS7; clear hR16 hS7)
              have hP2 := HP'.out.below hB16
              have hc10 : w2.cell? ⟨b10, 0, none⟩ = some (.map (some (b9 + 1 + 1))) := blk_cell hP2.2.2.1 0
              have hlook : ∀ n : Nat, (Instr.lookup 36 (.map (some (b9 + 1 + 1))) (.int .i64 kv) true).run Try.prog (w2.drewN n) = .ok (.tuple #[.int .i64 dn, .bool sn]) (w2.drewN n) := fun n => by
                rw [HDN.out.1, HDN.out.2]
                exact (hP2.2.2.2.1.same (w' := w2.drewN n) rfl).look (int_keyed Try.underlying3) Try.underlying36 Try.underlying3 (Try.zeroValue3 _) (keyOf_int_mk Try.underlying3 hkw) trivial
              have HP2 := Aside0.mk hP2
              have HCK : Aside0 (∀ w5 : World, w5.heap = w2.heap → Calls Try.prog 15 #[.slice A7 nxt.length c7] w5 fun e w' => e = .returned (.int .i64 kv) ∧ Drawn0 w5 w') :=
                ⟨fun w5 h5 => passes_key.calls 100 A7 c7 nxt kv w5 (HS7.out.move (by rw [h5]; exact Nat.le_refl _) (fun k _ _ => by rw [h5])).C HS7.out.2.1 HKV.out⟩
              clear hP2
              refine region_cut (R := fun aa WW => ∃ N : Nat, aa = { tmps := #[.slice A0 src.length c0, .slice A1 tol.length c1, .int .i64 slack, undef, undef, undef, .slice none 0 0, .int .i64 0, .int .i64 0, .pointer (some ⟨b9, 0, none⟩), .pointer (some ⟨b10, 0, none⟩), .pointer (some ⟨b10 + 1, 0, none⟩), .bool true, .pointer (some ⟨b10 + 1 + 1, 0, none⟩), .pointer (some ⟨g14, 0, none⟩), .pointer (some ⟨Bx, 0, none⟩), .slice A7 nxt.length c7, .int .i64 dn, .bool sn, .slice A0 src.length c0, .slice A1 tol.length c1, .int .i64 slack, .int .i64 0, .int .i64 0, .bool false, undef, .slice A1 tol.length c1, .int .i64 slack, .agg #[.slice A1 tol.length c1, .int .i64 slack], .agg #[.slice A1 tol.length c1, .int .i64 slack], .map (some (b9 + 1 + 1)), .tuple #[.int .i64 d, .bool true], .map (some (b9 + 1 + 1)), .slice A0 src.length c0, .int .i64 (keyS src), .tuple #[.int .i64 d, .bool true], .int .i64 d, .bool true, .bool true, .bool false, .slice A0 src.length c0, .int .i64 ((m : Int) + 1), .bool true, u43, u44, .slice xA tol.length xc, .int .i64 tol.length, .func (.func 27) #[] #[.pointer (some ⟨W.heap.size, 0, none⟩)], .agg #[.int .i64 x.val.fst, .int .i64 x.val.snd], .slice xA tol.length xc, .agg #[.int .i64 x.val.fst, .int .i64 x.val.snd], .slice A7 nxt.length c7, .tuple #[.int .i64 dn, .bool sn], .map (some (b9 + 1 + 1)), .slice A7 nxt.length c7, .int .i64 kv, .tuple #[.int .i64 dn, .bool sn], .int .i64 dn, .bool sn, undef, undef, undef, undef, undef, undef, undef, undef, undef, undef, undef, undef, undef, undef, undef, undef, undef, u76, undef], defers := [] } ∧ WW = w2.drewN N) ?_ ?_
              · gi_region_with_o (refine ⟨trivial, ?_⟩; gi_at_call 15; refine (CallsIn.inRound l (callsIn_wide.2 (HCK.out _ ?hw))).mono ?_; (case hw => rfl); rintro e w4 ⟨rfl, ⟨⟨nd, rfl⟩⟩⟩)
                all_goals exact ⟨_, rfl, rfl⟩
              · rintro a' W4' ⟨N, rfl, rfl⟩
                have hB4 : Below W'.heap.size W' (w2.drewN N) := pw_below_drewN hB16 N
                have hP4 := HP'.out.below hB4
                have hc9_0 : (w2.drewN N).cell? ⟨b9, 0, none⟩ = some (.slice A1 tol.length c1) := blk_cell hP4.2.1 0
                have hc9_1 : (w2.drewN N).cell? ⟨b9, 1, none⟩ = some (.int .i64 slack) := blk_cell hP4.2.1 1
                generalize hW4 : w2.drewN N = W4 at *
                have HP4 := Aside0.mk hP4
                have H18c : Aside0 (∀ b, passes_puzzle_ok.f 100 tol slack nxt = some b → Calls Try.prog 18 #[.agg #[.slice A1 tol.length c1, .int .i64 slack], .slice A7 nxt.length c7] W4 fun e w' => e = .returned (.bool b) ∧ Below W4.heap.size W4 w') :=
                  ⟨fun b hb => passes_puzzle_ok.calls 100 _ _ tol slack _ _ nxt b W4 (C_blocks HR1.out HP4.out.1.block) HC1.out (by rw [← hW4]; exact (HS7.out.below (pw_below_drewN (Below.refl _ _) N)).C) HS7.out.2.1 hb⟩
                have HS4 : Aside0 (SeesE w.heap.size (b10 + 1) W4 (A7, nxt.length, c7) nxt) := ⟨by rw [← hW4]; exact HS7.out.below (pw_below_drewN (Below.refl _ _) N)⟩
                have FIN : Aside0 (∀ w3 : World, Below W4.heap.size W4 w3 → good tol slack m s x.1 = false → KeepsFrom W3.heap.size W' w3 ∧ KeepB W.heap.size W' w3 ∧ PlanP w b9 b10 (b9 + 1 + 1) (b10 + 1) (b10 + 1 + 1) g14 W.heap.size A1 c1 tol slack cnt f m acc xA xc s Ds (pre ++ [x]) w3) := ⟨fun w3 hB8 hg => by
                  have hB9 := hB4.trans (hB8.mono hB4.size)
                  refine ⟨keepsFrom_below hB9, hB9.block _ (heap_lt HBN'.out), HP'.out.below hB9, HA'.out.below hB9, HD'.out.below hB9, (hB9.block _ (heap_lt HBN'.out)).trans HBN'.out, fun p hp => ?_⟩
                  rcases List.mem_append.1 hp with hp | hp
                  · exact HPRE.out p hp
                  · simp at hp; subst hp; exact hg⟩
                clear hP4 hW4
                by_cases hob : okL slack none tol nxt = true
                · rw [hob] at H18
                  replace H18c := Aside0.mk (H18c.out true H18.out)
                  have hon : Ok tol slack nxt := ⟨HNL.out, hob⟩
                  have hkk : kv = keyS nxt := by
                    have h1 := key_f nxt hon.range hnl5 100 (by omega)
                    have h2 := HKV.out
                    rw [h1] at h2
                    exact (Option.some.inj h2).symm
                  have hfd := (HF2.out nxt hon).1
                  rw [← hkk] at hfd
                  have HON := Aside0.mk hon
                  clear hon hkk hob
                  cases hdd : dist tol slack nxt with
                  | none =>
                    rw [hdd] at hfd
                    obtain ⟨rfl, rfl⟩ : dn = 0 ∧ sn = false := by
                      obtain ⟨h1, h2⟩ := HDN.out
                      rw [hfd] at h1 h2
                      exact ⟨h1, h2⟩
                    have HDD := Go.Lib.hid hdd
                    clear hfd hdd
                    gi_wp2_with (refine ⟨trivial, ?_⟩; gi_at_call 18; refine (CallsIn.inRound l (callsIn_wide.2 (H18c.out))).mono ?_; rintro e w3 ⟨rfl, hB8⟩; have hP5 := HP4.out.below hB8; have hcl11 : w3.cell? ⟨b10 + 1, 0, none⟩ = some (.int .i64 ((m : Int) + 1)) := blk_cell hP5.2.2.2.2.1 0; have HP5 := Aside0.mk hP5; have hB9 := hB4.trans (hB8.mono hB4.size); have hbx5 := (hB9.block _ (heap_lt hbx)).trans hbx; have hcx_0 : w3.cell? ⟨Bx, 0, none⟩ = some (.int .i64 x.1.1) := blk_cell hbx5 0; have hcx_1 : w3.cell? ⟨Bx, 1, none⟩ = some (.int .i64 x.1.2) := blk_cell hbx5 1; clear hP5)
                    exact FIN.out _ hB8 (by unfold good; rw [HNX.out, HDD.out]; simp)
                  | some e =>
                    rw [hdd] at hfd
                    obtain ⟨rfl, rfl⟩ : dn = (e : Int) ∧ sn = true := by
                      obtain ⟨h1, h2⟩ := HDN.out
                      rw [hfd] at h1 h2
                      exact ⟨h1, h2⟩
                    have HDD := Go.Lib.hid hdd
                    clear hfd hdd
                    by_cases hem : e = m
                    · have hb1 : ((e : Int) == (m : Int)) = true := by simp [hem]
                      have HEM := Go.Lib.hid hem
                      clear hem
                      gi_wp2_with (first | (refine ⟨trivial, ?_⟩; gi_at_call 18; refine (CallsIn.inRound l (callsIn_wide.2 (H18c.out))).mono ?_; rintro e w3 ⟨rfl, hB8⟩; have hP5 := HP4.out.below hB8; have hcl11 : w3.cell? ⟨b10 + 1, 0, none⟩ = some (.int .i64 ((m : Int) + 1)) := blk_cell hP5.2.2.2.2.1 0; have HP5 := Aside0.mk hP5; have hB9 := hB4.trans (hB8.mono hB4.size); have hbx5 := (hB9.block _ (heap_lt hbx)).trans hbx; have hcx_0 : w3.cell? ⟨Bx, 0, none⟩ = some (.int .i64 x.1.1) := blk_cell hbx5 0; have hcx_1 : w3.cell? ⟨Bx, 1, none⟩ = some (.int .i64 x.1.2) := blk_cell hbx5 1; obtain ⟨v5, e13c, _⟩ := HP5.out.2.2.2.2.2; have hA5 := HA'.out.below hB9; have hl13 : w3.cell? ⟨b10 + 1 + 1, 0, none⟩ = some v5 := blk_cell e13c 0; obtain ⟨v6, W6, ⟨A6, n6, c6, rfl⟩, hrun6, k13, k14, HF6⟩ := PlanW.push HP5.out e13c x.1 hA5 (HS4.out.below hB8) (HD'.out.below hB9) (by omega) h14 (by omega); have hc136 : W6.cell? ⟨b10 + 1 + 1, 0, none⟩ = some v5 := blk_cell k13 0; have hf136 : W6.frozen? ⟨b10 + 1 + 1, 0, none⟩ = false := (by simp [World.frozen?, k13]); have k14s := (Below.heap_setCell W6 ⟨b10 + 1 + 1, 0, none⟩ (.slice A6 n6 c6) g14 (show g14 ≠ b10 + 1 + 1 by omega)).trans k14; have hc146 : (W6.setCell ⟨b10 + 1 + 1, 0, none⟩ (.slice A6 n6 c6)).cell? ⟨g14, 0, none⟩ = some (.slice xA tol.length xc) := blk_cell k14s 0; have hf146 : (W6.setCell ⟨b10 + 1 + 1, 0, none⟩ (.slice A6 n6 c6)).frozen? ⟨g14, 0, none⟩ = false := (by simp [World.frozen?, k14s]); have HF6 := Aside0.mk HF6; clear k13 k14 k14s hA5 e13c hP5) | (gi_at_builtin; refine wpListIn_append_run rfl (.tmp 71) (.tmp 73) 24 rfl _ _ _ rfl rfl hrun6 ?_))
                      have h2 := HF6.out _ rfl
                      exact ⟨(keepsFrom_below hB9).trans (h2.1 _), rfl, pre, x, A7, c7, rfl, HPRE.out, (by have h1 := HNX.out; have h2 := HDD.out; have h3 := HEM.out; have h4 := HON.out; simp [good, h1, h2, h3, h4]), h2.2.1, (by have h3 := h2.2.2.1; rw [HNX.out]; rw [HNL.out] at h3 ⊢; exact h3), h2.2.2.2⟩
                    · have hb1 : ((e : Int) == (m : Int)) = false := by simp; omega
                      have HEM := Go.Lib.hid hem
                      clear hem
                      gi_wp2_with (refine ⟨trivial, ?_⟩; gi_at_call 18; refine (CallsIn.inRound l (callsIn_wide.2 (H18c.out))).mono ?_; rintro e w3 ⟨rfl, hB8⟩; have hP5 := HP4.out.below hB8; have hcl11 : w3.cell? ⟨b10 + 1, 0, none⟩ = some (.int .i64 ((m : Int) + 1)) := blk_cell hP5.2.2.2.2.1 0; have HP5 := Aside0.mk hP5; have hB9 := hB4.trans (hB8.mono hB4.size); have hbx5 := (hB9.block _ (heap_lt hbx)).trans hbx; have hcx_0 : w3.cell? ⟨Bx, 0, none⟩ = some (.int .i64 x.1.1) := blk_cell hbx5 0; have hcx_1 : w3.cell? ⟨Bx, 1, none⟩ = some (.int .i64 x.1.2) := blk_cell hbx5 1; clear hP5)
                      exact FIN.out _ hB8 (by have h1 := HNX.out; have h2 := HDD.out; have h3 := HEM.out; simp [good, h1, h2, h3])
                · have hob' : okL slack none tol nxt = false := by simpa using hob
                  rw [hob'] at H18
                  replace H18c := Aside0.mk (H18c.out false H18.out)
                  have HOB := Go.Lib.hid hob'
                  clear hob hob'
                  gi_wp2_with (refine ⟨trivial, ?_⟩; gi_at_call 18; refine (CallsIn.inRound l (callsIn_wide.2 (H18c.out))).mono ?_; rintro e w3 ⟨rfl, hB8⟩; have hP5 := HP4.out.below hB8; have hcl11 : w3.cell? ⟨b10 + 1, 0, none⟩ = some (.int .i64 ((m : Int) + 1)) := blk_cell hP5.2.2.2.2.1 0; have HP5 := Aside0.mk hP5; have hB9 := hB4.trans (hB8.mono hB4.size); have hbx5 := (hB9.block _ (heap_lt hbx)).trans hbx; have hcx_0 : w3.cell? ⟨Bx, 0, none⟩ = some (.int .i64 x.1.1) := blk_cell hbx5 0; have hcx_1 : w3.cell? ⟨Bx, 1, none⟩ = some (.int .i64 x.1.2) := blk_cell hbx5 1; clear hP5)
                  exact FIN.out _ hB8 (by have h1 := HNX.out; have h2 := HOB.out; simp [good, Ok, h1, h2])
            case done =>
              intro D xs W7 hD7 hS7 hI7 hdD
              exfalso
              obtain ⟨p, hp, hg⟩ := good_some HDS2.out
              have hp' : p ∈ xs.map Subtype.val := by rw [hS7]; exact hp
              obtain ⟨q, hq, rfl⟩ := List.mem_map.1 hp'
              have := hI7.2.2.2.2 q hq
              rw [hg] at this
              cases this
            case stop =>
              rintro D c pre W7 hD7 hS7 ⟨rfl, pre0, x, xA7, xc7, hpx, hpre0, hgx, hP7, hA7, hM7⟩ hdD
              have HPX := Go.Lib.hid hpx
              have HPRE0 := Aside0.mk hpre0
              have HGX := Go.Lib.hid hgx
              have HS7 := Aside0.mk hS7
              clear hpx hpre0 hgx hS7
              have hD7' : Marks w.heap.size W7 (D :: Ds) := ⟨List.nodup_cons.2 ⟨fun hmem => by have := hDlt D hmem; omega, hM7.1⟩, fun D' hD' => by
                rcases List.mem_cons.1 hD' with rfl | hD'
                · exact ⟨by have := p1.size; omega, hdD⟩
                · exact hM7.2 D' hD'⟩
              have hc147 : W7.cell? ⟨g14, 0, none⟩ = some (.slice xA7 tol.length xc7) := blk_cell hA7.1 0
              obtain ⟨r1, r2, r3, r4, r5, v7, r6, r7⟩ := id hP7
              have hc117 : W7.cell? ⟨b10 + 1, 0, none⟩ = some (.int .i64 ((m : Int) + 1)) := blk_cell r5 0
              have hlt117 := heap_lt r5
              have hlt147 := heap_lt hA7.1
              have hf117 : W7.frozen? ⟨b10 + 1, 0, none⟩ = false := by simp [World.frozen?, r5]
              gi_wp2
              have hg := HGX.out
              obtain ⟨hok7, hds7⟩ : Ok tol slack (mv x.1 s) ∧ dist tol slack (mv x.1 s) = some m := by simpa [good] using hg
              have hb11 : w.heap.size ≤ b10 + 1 := by omega
              have P8 := hP7.dec hb11 ((m : Nat) : Int)
              have A8 := hA7.dec hb11 r5 (.int .i64 ((m : Nat) : Int))
              have M8 := hD7'.dec r5 (.int .i64 ((m : Nat) : Int))
              generalize hW8 : W7.setCell ⟨b10 + 1, 0, none⟩ (.int .i64 (m : Int)) = W8 at *
              have hz8 : W8.heap.size = W7.heap.size := by rw [← hW8]; simp
              have hB8 := (Below.refl _ W8).alloc (Nat.le_refl _) (.cells #[.slice xA7 tol.length xc7] 22)
              have hst := planS_step (tol := tol) (slack := slack) (k := m) (s := s) (pre := pre0.map Subtype.val) (x := x.1) (by have h := HS7.out; rw [HPX.out] at h; simpa using h) (by intro y hy; obtain ⟨q, hq, rfl⟩ := List.mem_map.1 hy; exact HPRE0.out q hq) hg
              refine ⟨m, by omega, _, _, _, _, _, _, _, _, W7.heap.size, xA7, xc7, mv x.1 s, acc ++ [toP x.1], D :: Ds, rfl, P8.below hB8, ⟨by rw [← hz8]; exact World.alloc_heap_new W8 _, A8.2.below hB8⟩, M8.below hB8, by rw [mv_length]; exact HSLS.out, hok7, hds7, ?_, by omega, by omega, by simp; omega⟩
              have h := HPL.out
              rw [hst] at h
              simpa using h
  · have hwr' : (wrongS src tol slack != 0) = true := by simpa using hwr
    refine callsIn_of_wp_marks Try.func7 rfl trivial ?_ rfl
    simp only [Try.ntmps7, List.size_toArray, List.length_cons, List.length_nil, Nat.reduceAdd, Nat.reduceSub, Array.replicate_succ, Array.replicate_zero, List.push_toArray, List.append_toArray, List.nil_append, List.cons_append]
    gi_wp2_with (refine ⟨trivial, ?_⟩; gi_at_call 8; refine (callsIn_wide.2 (passes_Wrong.calls 100 _ _ src _ _ tol slack _ _ HR0.out HC0.out HR1.out HC1.out HW.out)).mono ?_; rintro e w1 ⟨rfl, hB1⟩)
    have HP : Aside0 (planR src tol slack = ([], wrongS src tol slack)) := ⟨by unfold planR; rw [if_pos hwr]⟩
    exact ⟨_, results_tmp2 rfl _ _ _, .slice none 0 0, by rw [HP.out]; rfl, by rw [HP.out]; exact Kd.R_nil _ _ _ _ _, hB1⟩
noncomputable def passes_Plan.f (l0 l1 : List Int) (a2 : Int) : Option (List S43 × Int) := some (planR l0 l1 a2)
theorem passes_Plan.calls (A0 : Option Addr) (c0 : Nat) (l0 : List Int) (A1 : Option Addr) (c1 : Nat) (l1 : List Int) (a2 : Int) (r1 : List S43) (r2 : Int) (w : World) (hr0 : Kd.C (Kd.int .i64) w A0 l0.length l0) (hc0 : l0.length ≤ c0) (hr1 : Kd.C (Kd.int .i64) w A1 l1.length l1) (hc1 : l1.length ≤ c1) (h : passes_Plan.f l0 l1 a2 = some (r1, r2)) :
    Calls Try.prog 7 #[.slice A0 l0.length c0, .slice A1 l1.length c1, .int .i64 a2] w (fun e w' => ∃ v0_, e = .returned (.tuple #[v0_, .int .i64 r2]) ∧ Kd.R k43 43 w' w.heap.size (fun _ => True) v0_ r1 ∧ Below w.heap.size w w') := by
  have hp : planR l0 l1 a2 = (r1, r2) := by simpa [passes_Plan.f] using h
  have hh := plan_in A0 c0 l0 A1 c1 l1 a2 w hr0 hc0 hr1 hc1
  unfold PlanR at hh
  rw [hp] at hh
  exact callsIn_wide.1 hh
end Go.Proofs.Ytehchpjjcohecaa.X
