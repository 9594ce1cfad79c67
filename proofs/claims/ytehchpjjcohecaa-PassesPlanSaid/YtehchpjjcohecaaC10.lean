import Derived.Test.YtehchpjjcohecaaC20
import Derived.Test.YtehchpjjcohecaaC7
/- tapestryref13.Plan -/
namespace Go.Proofs.Ytehchpjjcohecaa.X
open Go.RowKit Go.Shelf Go.Maps Go.WideMaps Go.WideElems Go.Proofs.YtehchpjjcohecaaW.PrintWords Go.Proofs.YtehchpjjcohecaaW.PrintLast Go.Proofs.YtehchpjjcohecaaW.PrintMore
set_option linter.unusedVariables false
set_option linter.unusedSimpArgs false
attribute [local go_sem] Oper.semAt_some
theorem rplan_push {w W w3 : World} {M cnt : Nat} {f : Lit → Option Int} {vA : Value} {acc : List S43} {xA : Option Addr} {xc : Nat} {s : List Int} (x1 x2 : Int) (hB : Below w.heap.size w W) (hR : Kd.R k43 43 W w.heap.size (fun _ => True) vA acc) (hS : Sees w.heap.size W (xA, s.length, xc) s) (hM : MapL Try.prog 9 3 W M cnt f) (hB3 : Below W.heap.size W w3) (hl : acc.length + 1 ≤ 300000) :
    ∃ A6 n6 c6 w6, (Builtin.append_ #[24, 24] 24 #[vA, .slice (some ⟨w3.heap.size + 1, 0, none⟩) 1 1]).run Try.prog ((w3.alloc (.cells #[.int .i64 x1, .int .i64 x2] 43)).alloc (.cells #[.int .i64 x1, .int .i64 x2] 43)) = .ok (.slice A6 n6 c6) w6 ∧
      w6.cell? ⟨w3.heap.size, 0, none⟩ = some (.int .i64 x1) ∧ w6.cell? ⟨w3.heap.size, 1, none⟩ = some (.int .i64 x2) ∧ Sees w.heap.size w6 (xA, s.length, xc) s ∧ MapL Try.prog 9 3 w6 M cnt f ∧ Below w.heap.size w w6 ∧ Kd.R k43 43 w6 w.heap.size (fun _ => True) (.slice A6 n6 c6) (acc ++ [toP (x1, x2)]) := by
  have hs3 := hB3.size
  have hs0 := hB.size
  have hB4 : Below W.heap.size W (w3.alloc (.cells #[.int .i64 x1, .int .i64 x2] 43)) := hB3.alloc hs3 _
  have hR4 := Kd.R_below hR hB4
  obtain ⟨v6, w6, hrun6, hR6, hB6, hg6, _⟩ := R_run (P := Try.prog) k43 (w0 := w) (W := w3.alloc (.cells #[.int .i64 x1, .int .i64 x2] 43)) w.heap.size 24 24 43 _ 16 Try.underlying24 info43 rfl (by decide) (by decide) vA acc (toP (x1, x2)) [.int .i64 x1, .int .i64 x2] (fun _ => True) (fun _ => False) (k43_mkM _ _ _ (toP (x1, x2))) (fun _ h => h.elim) (fun _ _ => trivial) hR4 (hB.trans (hB4.mono hs0)) (by simp; omega) (by omega)
  obtain ⟨A6, c6, rfl, _⟩ := Kd.R_reads hR6
  have hb6 : w6.heap[w3.heap.size]? = some (.cells #[.int .i64 x1, .int .i64 x2] 43 (0, 0)) := (hg6.block _ (by simp) (fun e2 => by have := Kd.R_lt hR _ e2.symm; omega)).trans (World.alloc_heap_new w3 _)
  have hM4 := hM.same (hB4.block _ hM.lt)
  refine ⟨A6, _, c6, w6, by simpa using hrun6, blk_cell hb6 0, blk_cell hb6 1, ?_, hM4.same (hg6.block _ hM4.lt (fun e2 => ?_)), hB6, hR6⟩
  · refine (hS.below hB4).move hg6.size (fun k hk hk2 => hg6.block k hk (fun e2 => ?_))
    obtain ⟨cs, e3⟩ := Kd.R_typed hR4 k e2.symm
    have hbs := Kd.R_base hR4 k e2.symm
    rcases hk2 with hk2 | ⟨cells, t, e4, rfl⟩
    · omega
    · rw [e3] at e4
      cases e4
  · obtain ⟨cs, e3⟩ := Kd.R_typed hR4 _ e2.symm
    exact cells_ne e3 hM4.block rfl
def RPlanI (A0 : Option Addr) (c0 : Nat) (src : List Int) (A1 : Option Addr) (c1 : Nat) (tol : List Int) (slack : Int) (M d0 cnt : Nat) (f : Lit → Option Int) (w : World) (m : Nat) (a : Act) (W : World) : Prop :=
  ∃ (vA : Value) (xA : Option Addr) (xc : Nat) (s : List Int) (acc : List S43) (u14 u35 u36 u37 u38 u39 u40 u41 u42 u43 u44 u45 u46 u47 u48 u49 u50 u51 u52 u53 u54 u55 : Value), a = { tmps := #[.slice A0 src.length c0, .slice A1 tol.length c1, .int .i64 slack, undef, undef, undef, .slice none 0 0, .int .i64 0, .int .i64 0, .map (some M), .int .i64 m, .bool true, vA, .slice xA s.length xc, u14, .slice A0 src.length c0, .slice A1 tol.length c1, .int .i64 slack, .int .i64 0, .int .i64 0, .bool false, undef, .slice A1 tol.length c1, .int .i64 slack, .map (some M), .tuple #[.int .i64 d0, .bool true], .map (some M), .slice A0 src.length c0, .string (nameS src), .tuple #[.int .i64 d0, .bool true], .int .i64 d0, .bool true, .bool true, .bool false, .slice A0 src.length c0, u35, u36, u37, u38, u39, u40, u41, u42, u43, u44, u45, u46, u47, u48, u49, u50, u51, u52, u53, u54, u55, undef], defers := [] } ∧
    Below w.heap.size w W ∧ MapL Try.prog 9 3 W M cnt f ∧ Kd.R k43 43 W w.heap.size (fun _ => True) vA acc ∧ Sees w.heap.size W (xA, s.length, xc) s ∧ Ok tol slack s ∧ dist tol slack s = some m ∧ acc ++ (planS tol slack m s).map toP = (planS tol slack d0 src).map toP ∧ acc.length + m ≤ 300000
set_option maxRecDepth 100000 in
set_option maxHeartbeats 8000000 in
theorem rplan_in (A0 : Option Addr) (c0 : Nat) (src : List Int) (A1 : Option Addr) (c1 : Nat) (tol : List Int) (slack : Int) (w : World) (hr0 : Kd.C (Kd.int .i64) w A0 src.length src) (hc0 : src.length ≤ c0) (hr1 : Kd.C (Kd.int .i64) w A1 tol.length tol) (hc1 : tol.length ≤ c1) :
    CallsIn Fence.wide 11 Try.prog 10 #[.slice A0 src.length c0, .slice A1 tol.length c1, .int .i64 slack] w (PlanR src tol slack w) := by
  have HW := Aside0.mk (rwrong_f src tol slack 100 (by omega))
  have HR0 := Aside0.mk hr0
  have HC0 := Aside0.mk hc0
  have HR1 := Aside0.mk hr1
  have HC1 := Aside0.mk hc1
  clear hr0 hc0 hr1 hc1
  by_cases hwr : wrongS src tol slack = 0
  · rw [hwr] at HW
    obtain ⟨hs1, hs5, hsl, hk1, hk12, hoks, hokt⟩ := wrong_ok hwr
    have HSL := Go.Lib.hid hsl
    have htl1 : 1 ≤ tol.length := by omega
    have htl5 : tol.length ≤ 5 := by omega
    have HWR := Go.Lib.hid hwr
    have HRS := Aside0.mk hoks.range
    clear hwr hsl
    refine callsIn_of_wp_marks Try.func10 rfl trivial ?_ rfl
    simp only [Try.ntmps10, List.size_toArray, List.length_cons, List.length_nil, Nat.reduceAdd, Nat.reduceSub, Array.replicate_succ, Array.replicate_zero, List.push_toArray, List.append_toArray, List.nil_append, List.cons_append]
    cases hds : dist tol slack src with
    | none =>
      have HDS := Go.Lib.hid hds
      clear hds
      gi_wp2_with (first
        | (refine ⟨trivial, ?_⟩; gi_at_call 9; refine (callsIn_wide.2 (tapestryref13_Wrong.calls 100 _ _ src _ _ tol slack _ _ HR0.out HC0.out HR1.out HC1.out HW.out)).mono ?_; rintro e w1 ⟨rfl, ⟨⟨nw, rfl⟩⟩⟩; have HB1 := Aside0.mk (pw_below_drewN (Below.refl w.heap.size w) nw))
        | (refine ⟨trivial, ?_⟩; gi_at_call 20; refine (callsIn_wide.2 (callsIn_wide.1 (layers_in A1 c1 tol slack _ (Kd.C_below HR1.out HB1.out) HC1.out hokt htl1 htl5))).mono ?_; rintro e w2 ⟨M, rfl, hM0, ⟨cnt, f, hM2, hf2⟩, hB2⟩; have hlook : ∀ n : Nat, (Instr.lookup 46 (.map (some M)) (.string (nameS src)) true).run Try.prog (w2.drewN n) = .ok (.tuple #[.int .i64 0, .bool false]) (w2.drewN n) := (fun n => look_name (o := none) (W := w2.drewN n) hM2 rfl hs5 (by rw [hf2 src hoks, HDS.out]; rfl)); have HB2 := Aside0.mk (HB1.out.trans (hB2.mono HB1.out.size)); clear hM2 hf2 hB2)
        | (refine ⟨trivial, ?_⟩; gi_at_call 21; refine (callsIn_wide.2 (name_calls A0 c0 src _ (Kd.C_below HR0.out (HB2.out)) HC0.out (by omega) HRS.out)).mono ?_; rintro e w3 ⟨rfl, ⟨⟨n3, rfl⟩⟩⟩))
      have HP : Aside0 (planR src tol slack = ([], 6)) := ⟨by unfold planR; rw [if_neg (by simp [HWR.out]), HDS.out]⟩
      exact ⟨_, results_tmp2 rfl _ _ _, .slice none 0 0, by rw [HP.out]; rfl, by rw [HP.out]; exact Kd.R_nil _ _ _ _ _, pw_below_drewN HB2.out _⟩
    | some d =>
      have HDS := Go.Lib.hid hds
      clear hds
      gi_wp2_with (first
        | (refine ⟨trivial, ?_⟩; gi_at_call 9; refine (callsIn_wide.2 (tapestryref13_Wrong.calls 100 _ _ src _ _ tol slack _ _ HR0.out HC0.out HR1.out HC1.out HW.out)).mono ?_; rintro e w1 ⟨rfl, ⟨⟨nw, rfl⟩⟩⟩; have HB1 := Aside0.mk (pw_below_drewN (Below.refl w.heap.size w) nw))
        | (refine ⟨trivial, ?_⟩; gi_at_call 20; refine (callsIn_wide.2 (callsIn_wide.1 (layers_in A1 c1 tol slack _ (Kd.C_below HR1.out HB1.out) HC1.out hokt htl1 htl5))).mono ?_; rintro e w2 ⟨M, rfl, hM0, ⟨cnt, f, hM2, hf2⟩, hB2⟩; have hlook : ∀ n : Nat, (Instr.lookup 46 (.map (some M)) (.string (nameS src)) true).run Try.prog (w2.drewN n) = .ok (.tuple #[.int .i64 d, .bool true]) (w2.drewN n) := (fun n => look_name (o := some (d : Int)) (W := w2.drewN n) hM2 rfl hs5 (by rw [hf2 src hoks, HDS.out]; rfl)); have HM2 := Aside0.mk hM2; have HF2 := Aside0.mk hf2; have HB2 := Aside0.mk (HB1.out.trans (hB2.mono HB1.out.size)); clear hM2 hf2 hB2)
        | (refine ⟨trivial, ?_⟩; gi_at_call 21; refine (callsIn_wide.2 (name_calls A0 c0 src _ (Kd.C_below HR0.out (HB2.out)) HC0.out (by omega) HRS.out)).mono ?_; rintro e w3 ⟨rfl, ⟨⟨n3, rfl⟩⟩⟩))
      have hd3 : d ≤ 300000 := by
        have := dist_lt htl5 HDS.out hoks
        omega
      refine wpIn_loop_ghost (RPlanI A0 c0 src A1 c1 tol slack M d cnt f w) d ?start ?round
      case start =>
        exact ⟨.slice none 0 0, A0, c0, src, [], _, _, _, _, _, _, _, _, _, _, _, _, _, _, _, _, _, _, _, _, _, _, rfl, pw_below_drewN HB2.out _, HM2.out.same rfl, Kd.R_nil _ _ _ _ _, (Sees.ofC HR0.out HC0.out (pw_below_drewN HB2.out _)), hoks, HDS.out, rfl, by simpa using hd3⟩
      case round =>
        rintro m a W ⟨vA, xA, xc, s, acc, u14, u35, u36, u37, u38, u39, u40, u41, u42, u43, u44, u45, u46, u47, u48, u49, u50, u51, u52, u53, u54, u55, rfl, hB, hM, hR, hS, hos, hds, hpl, hlen⟩
        have HM := Aside0.mk hM
        have HBW := Aside0.mk hB
        have HRA := Aside0.mk hR
        have HS := Aside0.mk hS
        have HDSs := Go.Lib.hid hds
        have HPL := Go.Lib.hid hpl
        clear hB hM hR hS hds hpl
        cases m with
        | zero =>
          gi_wp2
          have h := HPL.out
          simp [planS] at h
          have HP : Aside0 (planR src tol slack = (acc, 0)) := ⟨by unfold planR; rw [if_neg (by simp [HWR.out]), HDS.out, h]⟩
          exact ⟨_, results_tmp2 rfl _ _ _, vA, by rw [HP.out]; rfl, by rw [HP.out]; exact HRA.out, HBW.out⟩
        | succ m =>
          obtain ⟨⟨x1, x2⟩, hx⟩ : ∃ x, (allP tol.length).find? (good tol slack m s) = some x := by
            obtain ⟨p, hp, hg⟩ := good_some HDSs.out
            exact Option.isSome_iff_exists.1 (List.find?_isSome.2 ⟨p, hp, hg⟩)
          obtain ⟨q0, q1, q2, q3, q4⟩ := (mem_allP _ _).1 (List.mem_of_find?_eq_some hx)
          simp only at q0 q1 q2 q3 q4
          have hg := List.find?_some hx
          have hst : planS tol slack (m + 1) s = (x1, x2) :: planS tol slack m (mv (x1, x2) s) := by simp [planS, hx]
          have hss5 : s.length ≤ 5 := by have := hos.1; omega
          have hN32 : 2 ^ tol.length ≤ 32 := by
            have h5 := htl5
            generalize tol.length = n at h5
            rcases n with _ | _ | _ | _ | _ | _ | n
            all_goals first | decide | omega
          have H23 := Aside0.mk (behind_f x1 x2 ⟨q1, q2⟩ (by omega) s hss5 hos.range 100 (by omega))
          obtain ⟨nxt, hnxt⟩ : ∃ nxt, mv (x1, x2) s = nxt := ⟨_, rfl⟩
          rw [hnxt] at H23 hst
          unfold good at hg
          rw [hnxt] at hg
          have HG := Aside0.mk hg
          have HST := Go.Lib.hid hst
          have HX := Aside0.mk hx
          clear hx hg hst hnxt q0 q4 hN32
          gi_wp2_with (first
            | (refine ⟨trivial, ?_⟩; gi_at_call 22; refine (callsIn_wide.2 (callsIn_wide.1 (first_in xA xc s A1 c1 tol slack M cnt m f _ HS.out.C HS.out.2.1 (Kd.C_below HR1.out HBW.out) HC1.out HM.out HF2.out hos htl5 (x1, x2) HX.out))).mono ?_; rintro e w3 ⟨rfl, hB3⟩; obtain ⟨A6, n6, c6, w6, hrun6, hc60, hc61, hS6, hM6, hB6, hR6⟩ := rplan_push x1 x2 HBW.out HRA.out HS.out HM.out hB3 (by omega); have HS6 := Aside0.mk hS6; have HM6 := Aside0.mk hM6; have HB6 := Aside0.mk hB6; have HR6 := Aside0.mk hR6; clear hS6 hM6 hB6 hR6)
            | (gi_at_builtin; refine wpListIn_append_run rfl (.tmp 44) (.tmp 46) 24 rfl _ _ _ rfl rfl hrun6 ?_)
            | (refine ⟨trivial, ?_⟩; gi_at_call 23; refine (callsIn_wide.2 (tapestryref13_Behind.calls 100 xA xc s _ _ nxt _ HS6.out.C HS6.out.2.1 H23.out)).mono ?_; rintro e w7 ⟨v14, rfl, hR14, hB14⟩; obtain ⟨A7, c7, rfl, hS7⟩ := Sees.ofR' (B := w.heap.size) hR14))
          have hgg := HG.out
          rw [Bool.and_eq_true, decide_eq_true_eq, decide_eq_true_eq] at hgg
          refine ⟨m, by omega, .slice A6 n6 c6, A7, c7, nxt, acc ++ [toP (x1, x2)], _, _, _, _, _, _, _, _, _, _, _, _, _, _, _, _, _, _, _, _, _, _, rfl, HB6.out.trans (hB14.mono HB6.out.size), HM6.out.same (hB14.block _ HM6.out.lt), Kd.R_below HR6.out hB14, hS7, hgg.1, hgg.2, ?_, by simp; omega⟩
          have h := HPL.out
          rw [HST.out] at h
          simpa using h
  · have hwr' : (wrongS src tol slack != 0) = true := by simpa using hwr
    refine callsIn_of_wp_marks Try.func10 rfl trivial ?_ rfl
    simp only [Try.ntmps10, List.size_toArray, List.length_cons, List.length_nil, Nat.reduceAdd, Nat.reduceSub, Array.replicate_succ, Array.replicate_zero, List.push_toArray, List.append_toArray, List.nil_append, List.cons_append]
    gi_wp2_with (refine ⟨trivial, ?_⟩; gi_at_call 9; refine (callsIn_wide.2 (tapestryref13_Wrong.calls 100 _ _ src _ _ tol slack _ _ HR0.out HC0.out HR1.out HC1.out HW.out)).mono ?_; rintro e w1 ⟨rfl, ⟨⟨nw, rfl⟩⟩⟩)
    have HP : Aside0 (planR src tol slack = ([], wrongS src tol slack)) := ⟨by unfold planR; rw [if_pos hwr]⟩
    exact ⟨_, results_tmp2 rfl _ _ _, .slice none 0 0, by rw [HP.out]; rfl, by rw [HP.out]; exact Kd.R_nil _ _ _ _ _, pw_below_drewN (Below.refl _ w) nw⟩
noncomputable def tapestryref13_Plan.f (l0 l1 : List Int) (a2 : Int) : Option (List S43 × Int) := some (planR l0 l1 a2)
theorem tapestryref13_Plan.calls (A0 : Option Addr) (c0 : Nat) (l0 : List Int) (A1 : Option Addr) (c1 : Nat) (l1 : List Int) (a2 : Int) (r1 : List S43) (r2 : Int) (w : World) (hr0 : Kd.C (Kd.int .i64) w A0 l0.length l0) (hc0 : l0.length ≤ c0) (hr1 : Kd.C (Kd.int .i64) w A1 l1.length l1) (hc1 : l1.length ≤ c1) (h : tapestryref13_Plan.f l0 l1 a2 = some (r1, r2)) :
    Calls Try.prog 10 #[.slice A0 l0.length c0, .slice A1 l1.length c1, .int .i64 a2] w (fun e w' => ∃ v0_, e = .returned (.tuple #[v0_, .int .i64 r2]) ∧ Kd.R k43 43 w' w.heap.size (fun _ => True) v0_ r1 ∧ Below w.heap.size w w') := by
  have hp : planR l0 l1 a2 = (r1, r2) := by simpa [tapestryref13_Plan.f] using h
  have hh := rplan_in A0 c0 l0 A1 c1 l1 a2 w hr0 hc0 hr1 hc1
  unfold PlanR at hh
  rw [hp] at hh
  exact callsIn_wide.1 hh
end Go.Proofs.Ytehchpjjcohecaa.X
