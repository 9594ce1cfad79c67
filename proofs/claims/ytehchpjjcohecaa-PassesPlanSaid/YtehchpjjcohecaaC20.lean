import Derived.Test.YtehchpjjcohecaaG1
/- tapestryref13.Layers (NOT PROVED YET) -/
namespace Go.Proofs.Ytehchpjjcohecaa.X
open Go.RowKit Go.Shelf Go.Maps Go.WideMaps Go.WideElems Go.Proofs.YtehchpjjcohecaaW.PrintWords Go.Proofs.YtehchpjjcohecaaW.PrintLast Go.Proofs.YtehchpjjcohecaaW.PrintMore
set_option linter.unusedVariables false
set_option linter.unusedSimpArgs false
attribute [local go_sem] Oper.semAt_some
def layFrame (A0 : Option Addr) (c0 : Nat) (tol : List Int) (slack : Int) (M : Nat) (v21 vL : Value) (n : Nat) (u8 u10 u11 u12 u13 u14 u15 u22 u23 u24 u25 u26 u27 u28 u29 u30 u31 u32 u33 u34 u35 u36 u37 u38 u39 u40 u41 u42 u43 u44 u45 u46 u47 u48 u49 u50 u51 u52 u53 u54 u55 u56 u57 u58 u59 u60 u61 u62 u63 u64 u65 u66 u67 u68 u69 u70 u71 : Value) : Array Value :=
  #[.slice A0 tol.length c0, .int .i64 slack, undef, undef, .map none, .map (some M), vL, .int .i64 n, u8, undef, u10, u11, u12, u13, u14, u15, .map (some M), .slice A0 tol.length c0, .string (nameS tol), .map (some M), .slice A0 tol.length c0, v21, u22, u23, u24, u25, u26, u27, u28, u29, u30, u31, u32, u33, u34, u35, u36, u37, u38, u39, u40, u41, u42, u43, u44, u45, u46, u47, u48, u49, u50, u51, u52, u53, u54, u55, u56, u57, u58, u59, u60, u61, u62, u63, u64, u65, u66, u67, u68, u69, u70, u71, undef]
def LayM (tol : List Int) (slack : Int) (f : Lit → Option Int) (g : List Int → Option Nat) : Prop := ∀ s, Ok tol slack s → f (keyN s) = (g s).map Int.ofNat
def LayI (A0 : Option Addr) (c0 : Nat) (tol : List Int) (slack : Int) (v21 : Value) (w : World) (m : Nat) (a : Act) (W : World) : Prop :=
  ∃ (vL : Value) (n : Nat) (u8 u10 u11 u12 u13 u14 u15 u22 u23 u24 u25 u26 u27 u28 u29 u30 u31 u32 u33 u34 u35 u36 u37 u38 u39 u40 u41 u42 u43 u44 u45 u46 u47 u48 u49 u50 u51 u52 u53 u54 u55 u56 u57 u58 u59 u60 u61 u62 u63 u64 u65 u66 u67 u68 u69 u70 u71 : Value) (f : Lit → Option Int) (g : List Int → Option Nat) (seen last : List (List Int)), a = { tmps := layFrame A0 c0 tol slack w.heap.size v21 vL n u8 u10 u11 u12 u13 u14 u15 u22 u23 u24 u25 u26 u27 u28 u29 u30 u31 u32 u33 u34 u35 u36 u37 u38 u39 u40 u41 u42 u43 u44 u45 u46 u47 u48 u49 u50 u51 u52 u53 u54 u55 u56 u57 u58 u59 u60 u61 u62 u63 u64 u65 u66 u67 u68 u69 u70 u71, defers := [] } ∧
    LayW w w.heap.size f seen.length vL last (.slice none 0 0) [] W ∧ LayM tol slack f g ∧ Bfs tol slack g seen last ∧ (∀ s ∈ last, g s = some (n - 1)) ∧ 1 ≤ n ∧ (last ≠ [] → n ≤ seen.length) ∧ n ≤ 300000 ∧ last.length ≤ seen.length ∧ m = 2 * (248832 - seen.length) + (if last = [] then 0 else 1)
/-- Between two ways to stand of the last layer. -/
def LayK (A0 : Option Addr) (c0 : Nat) (tol : List Int) (slack : Int) (v21 : Value) (AL : Option Addr) (cL n n0 : Nat) (last : List (List Int)) (w : World) (k : Nat) (a : Act) (W : World) : Prop :=
  ∃ (vN : Value) (i : Nat) (u10 u11 u12 u13 u14 u15 u22 u23 u24 u25 u26 u30 u31 u32 u33 u34 u35 u36 u37 u38 u39 u40 u41 u42 u43 u44 u45 u46 u47 u48 u49 u50 u51 u52 u53 u54 u55 u56 u57 u58 u59 u60 u61 u62 u63 u64 u65 u66 u67 u68 u69 u70 u71 : Value) (f : Lit → Option Int) (g : List Int → Option Nat) (seen next : List (List Int)), a = { tmps := layFrame A0 c0 tol slack w.heap.size v21 (.slice AL last.length cL) n vN u10 u11 u12 u13 u14 u15 u22 u23 u24 u25 u26 (.slice AL last.length cL) (.int .i64 last.length) (.int .i64 i) u30 u31 u32 u33 u34 u35 u36 u37 u38 u39 u40 u41 u42 u43 u44 u45 u46 u47 u48 u49 u50 u51 u52 u53 u54 u55 u56 u57 u58 u59 u60 u61 u62 u63 u64 u65 u66 u67 u68 u69 u70 u71, defers := [] } ∧ i + k = last.length ∧
    LayW w w.heap.size f seen.length (.slice AL last.length cL) last vN next W ∧ LayM tol slack f g ∧ Bfs tol slack g seen (last.drop i ++ next) ∧ (∀ s ∈ last.drop i, g s = some (n - 1)) ∧ (∀ s ∈ next, g s = some n) ∧ n0 + next.length = seen.length
/-- Between two By. -/
def LayB (A0 : Option Addr) (c0 : Nat) (tol : List Int) (slack : Int) (v21 : Value) (AL : Option Addr) (cL n n0 : Nat) (last : List (List Int)) (xA : Option Addr) (xc : Nat) (l : List Int) (i : Nat) (w : World) (k : Nat) (a : Act) (W : World) : Prop :=
  ∃ (b : Int) (vN : Value) (u12 u13 u14 u15 u22 u23 u24 u25 u26 u30 u31 u32 u33 u34 u35 u36 u37 u38 u39 u40 u41 u42 u43 u44 u45 u46 u47 u48 u49 u50 u51 u52 u53 u54 u55 u56 u57 u58 u59 u60 u61 u62 u63 u64 u65 u66 u67 u68 u69 u70 u71 : Value) (f : Lit → Option Int) (g : List Int → Option Nat) (seen next : List (List Int)) (pre : List (Int × Int)), a = { tmps := layFrame A0 c0 tol slack w.heap.size v21 (.slice AL last.length cL) n vN (.slice xA l.length xc) (.int .i64 b) u12 u13 u14 u15 u22 u23 u24 u25 u26 (.slice AL last.length cL) (.int .i64 last.length) (.int .i64 i) u30 u31 u32 u33 u34 u35 u36 u37 u38 u39 u40 u41 u42 u43 u44 u45 u46 u47 u48 u49 u50 u51 u52 u53 u54 u55 u56 u57 u58 u59 u60 u61 u62 u63 u64 u65 u66 u67 u68 u69 u70 u71, defers := [] } ∧ b + k = 3 ∧ -2 ≤ b ∧
    LayW w w.heap.size f seen.length (.slice AL last.length cL) last vN next W ∧ Sees w.heap.size W (xA, l.length, xc) l ∧ LayM tol slack f g ∧ Rnd tol slack g seen (last.drop (i + 1) ++ next) l (n - 1) pre ∧ (∀ s ∈ last.drop (i + 1), g s = some (n - 1)) ∧ (∀ s ∈ next, g s = some n) ∧ n0 + next.length = seen.length ∧ ∀ p ∈ allP tol.length, p.1 < b → neg p ∈ pre
/-- Between two Which. -/
def LayC (A0 : Option Addr) (c0 : Nat) (tol : List Int) (slack : Int) (v21 : Value) (AL : Option Addr) (cL n n0 : Nat) (last : List (List Int)) (xA : Option Addr) (xc : Nat) (l : List Int) (i : Nat) (w : World) (b : Int) (k : Nat) (a : Act) (W : World) : Prop :=
  ∃ (j : Nat) (vN : Value) (u13 u14 u15 u22 u23 u24 u25 u26 u30 u31 u32 u33 u34 u35 u36 u37 u38 u39 u40 u41 u42 u43 u44 u45 u46 u47 u48 u49 u50 u51 u52 u53 u54 u55 u56 u57 u58 u59 u60 u61 u62 u63 u64 u65 u66 u67 u68 u69 u70 u71 : Value) (f : Lit → Option Int) (g : List Int → Option Nat) (seen next : List (List Int)) (pre : List (Int × Int)), a = { tmps := layFrame A0 c0 tol slack w.heap.size v21 (.slice AL last.length cL) n vN (.slice xA l.length xc) (.int .i64 b) (.int .i64 j) u13 u14 u15 u22 u23 u24 u25 u26 (.slice AL last.length cL) (.int .i64 last.length) (.int .i64 i) u30 u31 u32 u33 u34 u35 u36 u37 u38 u39 u40 u41 u42 u43 u44 u45 u46 u47 u48 u49 u50 u51 u52 u53 u54 u55 u56 u57 u58 u59 u60 u61 u62 u63 u64 u65 u66 u67 u68 u69 u70 u71, defers := [] } ∧ j + k = 2 ^ tol.length ∧ 1 ≤ j ∧
    LayW w w.heap.size f seen.length (.slice AL last.length cL) last vN next W ∧ Sees w.heap.size W (xA, l.length, xc) l ∧ LayM tol slack f g ∧ Rnd tol slack g seen (last.drop (i + 1) ++ next) l (n - 1) pre ∧ (∀ s ∈ last.drop (i + 1), g s = some (n - 1)) ∧ (∀ s ∈ next, g s = some n) ∧ n0 + next.length = seen.length ∧ ∀ p ∈ allP tol.length, lexP p (b, (j : Int)) → neg p ∈ pre
set_option maxRecDepth 100000 in
set_option maxHeartbeats 40000000 in
theorem layers_in (A0 : Option Addr) (c0 : Nat) (tol : List Int) (slack : Int) (w : World) (hr0 : Kd.C (Kd.int .i64) w A0 tol.length tol) (hc0 : tol.length ≤ c0) (hok : Ok tol slack tol) (hn1 : 1 ≤ tol.length) (hn5 : tol.length ≤ 5) :
    CallsIn Fence.wide 11 Try.prog 20 #[.slice A0 tol.length c0, .int .i64 slack] w (fun e w' => ∃ M, e = .returned (.map (some M)) ∧ w.heap.size ≤ M ∧ (∃ (cnt : Nat) (f : Lit → Option Int), MapL Try.prog 9 3 w' M cnt f ∧ ∀ s, Ok tol slack s → f (keyN s) = (dist tol slack s).map Int.ofNat) ∧ Below w.heap.size w w') := by
  have hmm := @run_makeMap Try.prog
  have HR := Aside0.mk hr0
  have HC := Aside0.mk hc0
  have HRG := Aside0.mk hok.range
  clear hr0 hc0
  refine callsIn_of_wp_marks Try.func20 rfl trivial ?_ rfl
  simp only [Try.ntmps20, List.size_toArray, List.length_cons, List.length_nil, Nat.reduceAdd, Nat.reduceSub, Array.replicate_succ, Array.replicate_zero, List.push_toArray, List.append_toArray, List.nil_append, List.cons_append]
  gi_wp2_with (refine ⟨trivial, ?_⟩; gi_at_call 21; refine (callsIn_wide.2 (name_calls A0 c0 tol _ (Kd.C_below HR.out ((Below.refl _ w).alloc (Nat.le_refl _) _)) HC.out (by omega) HRG.out)).mono ?_; rintro e w1 ⟨rfl, ⟨⟨n1, rfl⟩⟩⟩)
  obtain ⟨W0, hW0⟩ : ∃ W0, (w.alloc (.map #[] 0)).drewN n1 = W0 := ⟨_, rfl⟩
  have hB0 : Below w.heap.size w W0 := by rw [← hW0]; exact pw_below_drewN ((Below.refl _ w).alloc (Nat.le_refl _) _) n1
  have hM0 : MapL Try.prog 9 3 W0 w.heap.size 0 (fun _ => none) := (MapL.made w Try.prog 9 3).same (by rw [← hW0]; rfl)
  have hkn : keyOf Try.prog 9 (.string (nameS tol)) = some (keyN tol) := keyOf_string_mk Try.underlying9 (by rw [nameS_size, show maxLen = 9223372036854775807 by decide]; omega)
  obtain ⟨W1, hrun, hM1, hg1⟩ := hM0.update (t := 46) (string_keyed Try.underlying9) Try.underlying46 Try.underlying3 (by unfold maxLen; omega) 0 hkn (show WideAt.IsKeyLit (keyN tol) from trivial) (by decide)
  rw [hW0, hrun]
  have hB1 : Below w.heap.size w W1 := hB0.grown hg1 hB0.size (fun k e => by cases e; omega)
  clear hrun hW0 hkn
  gi_wp2
  obtain ⟨W2, hW2⟩ : ∃ W2, W1.alloc (.cells #[.slice A0 tol.length c0] 22) = W2 := ⟨_, rfl⟩
  rw [hW2]
  have hB12 : Below W1.heap.size W1 W2 := by rw [← hW2]; exact (Below.refl _ _).alloc (Nat.le_refl _) _
  have hB2 : Below w.heap.size w W2 := hB1.trans (hB12.mono hB1.size)
  have iR : W2.heap[W1.heap.size]? = some (.cells #[.slice A0 tol.length c0] 22 (0, 0)) := by rw [← hW2]; exact World.alloc_heap_new W1 _
  have hL : LayW w w.heap.size (updL (fun _ => none) (keyN tol) 0) 1 (.slice (some ⟨W1.heap.size, 0, none⟩) 1 1) [tol] (.slice none 0 0) [] W2 := by
    have hb1 := hB1.size
    refine ⟨hB2, hM1.same (hB12.block _ hM1.lt), Nat.le_refl _, [(A0, tol.length, c0)], [], kSV_own (ok := fun _ => True) ⟨fun k hk => trivial, [.slice A0 tol.length c0], ⟨by simp [kSV, Kd.scalar], .inr ⟨W1.heap.size, 0, 1, _, by simp [kSV, Kd.scalar], by omega, iR, Nat.le_refl _, by simp [maxLen], by simp [kSV, Kd.scalar], by simp [kSV, Kd.scalar]⟩⟩, Reps.one (show kSV.M _ _ _ ((A0, tol.length, c0) : SV) [.slice A0 tol.length c0] from rfl) (Reps.none _ _)⟩, ⟨rfl, ?_⟩, Kd.Q_nil _ _ _ _ _, ⟨rfl, fun i x l a _ => by simp at a⟩⟩
    intro i x l a b
    cases i with
    | zero =>
      simp at a b
      subst a b
      exact Sees.ofC HR.out HC.out hB2
    | succ i => simp at a
  refine wpIn_loop_ghost (LayI A0 c0 tol slack (.slice (some ⟨W1.heap.size, 0, none⟩) 1 1) w) (2 * (248832 - 1) + 1) ?start ?round
  case start =>
    refine ⟨.slice (some ⟨W1.heap.size, 0, none⟩) 1 1, 1, _, _, _, _, _, _, _, _, _, _, _, _, _, _, _, _, _, _, _, _, _, _, _, _, _, _, _, _, _, _, _, _, _, _, _, _, _, _, _, _, _, _, _, _, _, _, _, _, _, _, _, _, _, _, _, _, _, updL (fun _ => none) (keyN tol) 0, fun s => if s = tol then some 0 else none, [tol], [tol], rfl, hL, ?_, Bfs.begin tol slack hok, ?_, Nat.le_refl _, fun _ => Nat.le_refl _, by omega, Nat.le_refl _, rfl⟩
    · intro s hs
      by_cases e : s = tol
      · subst e; simp [updL]
      · have : keyN s ≠ keyN tol := fun h => e (keyN_inj hs.range hok.range h)
        simp [updL, this, e]
    · intro s hs
      simp at hs
      subst hs
      simp
  case round =>
    clear hL iR hB2 hB12 hW2 hM1 hg1 hB1 hM0 hB0
    rintro m a W ⟨vL, n, u8, u10, u11, u12, u13, u14, u15, u22, u23, u24, u25, u26, u27, u28, u29, u30, u31, u32, u33, u34, u35, u36, u37, u38, u39, u40, u41, u42, u43, u44, u45, u46, u47, u48, u49, u50, u51, u52, u53, u54, u55, u56, u57, u58, u59, u60, u61, u62, u63, u64, u65, u66, u67, u68, u69, u70, u71, f, g, seen, last, rfl, hL, hf, hB, hlast, hn, hns, hn3, hls, rfl⟩
    obtain ⟨i1, i2, i3, hsL, hsN, i4, i5, i6, i7⟩ := id hL
    obtain ⟨AL, cL, rfl, hcL⟩ := Kd.Q_slice i4
    have hlen : hsL.length = last.length := i5.1
    rw [hlen] at hL ⊢
    unfold layFrame
    cases last with
    | nil =>
      have hd := hB.dist
      gi_wp2
      refine ⟨_, results_single rfl (.tmp .nil), w.heap.size, rfl, Nat.le_refl _, ⟨_, f, i2, fun s hs => ?_⟩, i1⟩
      rw [hf s hs, hd s hs]
    | cons at0 rest0 =>
      have hseen : seen.length ≤ 248832 := seen_bound hn5 seen hB.nodup hB.ok
      have hM := Aside0.mk i2
      have HL := Aside0.mk hL
      have HF := Aside0.mk hf
      have HB := Aside0.mk hB
      have HLA := Aside0.mk hlast
      clear hL hf hB hlast i2 i4 i5 i6 i7
      have hns' : n ≤ seen.length := hns (by simp)
      gi_wp2
      refine wpIn_loop_ghost (LayK A0 c0 tol slack (.slice (some ⟨W1.heap.size, 0, none⟩) 1 1) AL cL n seen.length (at0 :: rest0) w) (rest0.length + 1) ?start ?round
      case start =>
        exact ⟨.slice none 0 0, 0, _, _, _, _, _, _, _, _, _, _, _, _, _, _, _, _, _, _, _, _, _, _, _, _, _, _, _, _, _, _, _, _, _, _, _, _, _, _, _, _, _, _, _, _, _, _, _, _, _, _, _, _, _, f, g, seen, [], rfl, by simp, HL.out, HF.out, by simpa using HB.out, by simpa using HLA.out, by simp, by simp⟩
      case round =>
        have HLEN : Aside0 (seen.length ≤ 248832 ∧ n ≤ seen.length) := ⟨hseen, hns'⟩
        clear hM HL HF HB HLA hns hns' hseen i1
        obtain ⟨last, hlast⟩ : ∃ last, at0 :: rest0 = last := ⟨_, rfl⟩
        have hll : rest0.length + 1 = last.length := by rw [← hlast]; rfl
        have hl300 : last.length ≤ 300000 := by have := HLEN.out; simp at hls; omega
        have hlne : last ≠ [] := by rw [← hlast]; simp
        rw [hlast] at hlen ⊢
        clear hlast
        rintro k a W ⟨vN, i, u10, u11, u12, u13, u14, u15, u22, u23, u24, u25, u26, u30, u31, u32, u33, u34, u35, u36, u37, u38, u39, u40, u41, u42, u43, u44, u45, u46, u47, u48, u49, u50, u51, u52, u53, u54, u55, u56, u57, u58, u59, u60, u61, u62, u63, u64, u65, u66, u67, u68, u69, u70, u71, f1, g1, seen1, next, rfl, hik, hL, hf, hB, hlast, hnext, hn0⟩
        unfold layFrame
        cases k with
        | zero =>
          have hi : i = last.length := by omega
          subst hi
          have hL2 := hL.swap
          have hB2 : Bfs tol slack g1 seen1 next := by simpa using hB
          have hseen1 : seen1.length ≤ 248832 := seen_bound hn5 seen1 hB2.nodup hB2.ok
          gi_wp2
          refine ⟨_, ?_, vN, n + 1, _, _, _, _, _, _, _, _, _, _, _, _, _, _, _, _, _, _, _, _, _, _, _, _, _, _, _, _, _, _, _, _, _, _, _, _, _, _, _, _, _, _, _, _, _, _, _, _, _, _, _, _, _, _, _, _, _, f1, g1, seen1, next, rfl, hL2, hf, hB2, ?_, by omega, ?_, by have := HLEN.out; omega, by omega, rfl⟩
          · have := HLEN.out
            cases next with
            | nil => simp at hn0 ⊢; omega
            | cons y ys => simp at hn0 ⊢; omega
          · intro s hs
            simpa using hnext s hs
          · intro hne
            have : 0 < next.length := List.length_pos_iff.2 hne
            have := HLEN.out
            omega
        | succ k =>
          have hi : i < last.length := by omega
          obtain ⟨j1, j2, j3, hsL', hsN', j4, j5, j6, j7⟩ := id hL
          have hlen' : hsL'.length = last.length := j5.1
          have hC4 := (Kd.Q_reads' j4).2.2
          have hci : decide ((i : Int) < (last.length : Int)) = true := decide_eq_true (by omega)
          obtain ⟨x, hx⟩ : ∃ x, hsL'[i]? = some x := ⟨hsL'[i]'(by omega), List.getElem?_eq_getElem (by omega)⟩
          obtain ⟨l, hl⟩ : ∃ l, last[i]? = some l := ⟨last[i], List.getElem?_eq_getElem hi⟩
          have hSx := j5.2 i x l hx hl
          obtain ⟨xA, xn, xc⟩ := x
          obtain rfl : xn = l.length := hSx.1
          obtain ⟨ad, cc, rfl, hcl, hK, hcell⟩ := Kd.C_get hC4 ((none, 0, 0) : SV) (i : Int) (by omega) (by omega)
          have hxd : hsL'.getD (i : Int).toNat ((none, 0, 0) : SV) = (xA, l.length, xc) := by simp [List.getD_eq_getElem?_getD, hx]
          rw [hxd] at hK
          have hcc : cc = [.slice xA l.length xc] := hK
          subst hcc
          have hld : W.cell? (ad.add i) = some (.slice xA l.length xc) := by simpa [kSV, Kd.scalar] using hcell 0 _ rfl
          have hi0 : (0 : Int) ≤ (i : Int) := by omega
          have hi1 : ((i : Int) < (last.length : Int)) := by omega
          replace hi0 := eq_true hi0
          replace hi1 := eq_true hi1
          have HL := Aside0.mk hL
          have HF := Aside0.mk hf
          have HB := Aside0.mk hB
          have HLA := Aside0.mk hlast
          have HNE := Aside0.mk hnext
          have HN0 := Go.Lib.hid hn0
          have HSX := Aside0.mk hSx
          have HIK := Go.Lib.hid hik
          clear hL hf hB hlast hnext hn0 hSx j1 j2 j3 j4 j5 j6 j7 hlen' hC4 hcell hK hcl hxd hx hik
          have hdrop : last.drop i = l :: last.drop (i + 1) := by rw [List.drop_eq_getElem_cons hi]; congr 1; rw [List.getElem?_eq_getElem hi] at hl; exact Option.some.inj hl
          have HDR := Go.Lib.hid hdrop
          clear hdrop hl
          gi_wp2
          refine wpIn_loop_ghost (LayB A0 c0 tol slack (.slice (some ⟨W1.heap.size, 0, none⟩) 1 1) (some ad) cL n seen.length last xA xc l i w) 5 ?start ?round
          case start =>
            have hB := HB.out
            rw [HDR.out] at hB
            obtain ⟨d, hR⟩ := Bfs.pop hB
            have hd : d = n - 1 := by
              have h1 := hR.here
              have h2 := HLA.out l (by rw [HDR.out]; simp)
              rw [h1] at h2
              exact Option.some.inj h2
            subst hd
            refine ⟨-2, vN, _, _, _, _, _, _, _, _, _, _, _, _, _, _, _, _, _, _, _, _, _, _, _, _, _, _, _, _, _, _, _, _, _, _, _, _, _, _, _, _, _, _, _, _, _, _, _, _, _, _, _, f1, g1, seen1, next, [], rfl, by omega, by omega, HL.out, HSX.out, HF.out, hR, fun s hs => HLA.out s (by rw [HDR.out]; exact List.mem_cons_of_mem _ hs), HNE.out, HN0.out, ?_⟩
            intro p hp hlt
            have := ((mem_allP _ _).1 hp).2.1
            omega
          case round =>
            clear HL HF HB HLA HNE HN0 HSX hld hi0 hi1 hci
            rintro kb a W ⟨b, vN, u12, u13, u14, u15, u22, u23, u24, u25, u26, u30, u31, u32, u33, u34, u35, u36, u37, u38, u39, u40, u41, u42, u43, u44, u45, u46, u47, u48, u49, u50, u51, u52, u53, u54, u55, u56, u57, u58, u59, u60, u61, u62, u63, u64, u65, u66, u67, u68, u69, u70, u71, f2, g2, seen2, next2, pre, rfl, hbk, hbm, hL, hSx, hf, hR, hlast, hnext, hn0, hpre⟩
            have HL := Aside0.mk hL
            have HSX := Aside0.mk hSx
            have HF := Aside0.mk hf
            have HRN := Aside0.mk hR
            have HLA := Aside0.mk hlast
            have HNE := Aside0.mk hnext
            have HN0 := Go.Lib.hid hn0
            have HPRE := Aside0.mk hpre
            clear hL hSx hf hR hlast hnext hn0 hpre
            unfold layFrame
            cases kb with
            | zero =>
              obtain rfl : b = 3 := by omega
              gi_wp2
              refine ⟨k, by omega, vN, i + 1, _, _, _, _, _, _, _, _, _, _, _, _, _, _, _, _, _, _, _, _, _, _, _, _, _, _, _, _, _, _, _, _, _, _, _, _, _, _, _, _, _, _, _, _, _, _, _, _, _, _, _, _, _, f2, g2, seen2, next2, rfl, by have := HIK.out; omega, HL.out, HF.out, HRN.out.all (fun p hp => HPRE.out p hp ?_), HLA.out, HNE.out, HN0.out⟩
              have := ((mem_allP _ _).1 hp).2.2.1
              omega
            | succ kb =>
              have hb2 : b ≤ 2 := by omega
              have hcb : decide (b ≤ 2) = true := decide_eq_true hb2
              gi_wp2
              have hN : (1 : Nat) ≤ 2 ^ tol.length := Nat.one_le_two_pow
              refine wpIn_loop_ghost (LayC A0 c0 tol slack (.slice (some ⟨W1.heap.size, 0, none⟩) 1 1) (some ad) cL n seen.length last xA xc l i w b) (2 ^ tol.length - 1) ?start ?round
              case start =>
                refine ⟨1, vN, _, _, _, _, _, _, _, _, _, _, _, _, _, _, _, _, _, _, _, _, _, _, _, _, _, _, _, _, _, _, _, _, _, _, _, _, _, _, _, _, _, _, _, _, _, _, _, _, _, _, f2, g2, seen2, next2, pre, rfl, by omega, Nat.le_refl _, HL.out, HSX.out, HF.out, HRN.out, HLA.out, HNE.out, HN0.out, ?_⟩
                intro p hp h
                rcases h with h | ⟨_, h⟩
                · exact HPRE.out p hp h
                · have := ((mem_allP _ _).1 hp).2.2.2.1
                  simp only at h
                  omega
              case round =>
                clear HL HF HRN HLA HNE HN0 HSX HPRE hcb
                rintro kk a W ⟨j, vN, u13, u14, u15, u22, u23, u24, u25, u26, u30, u31, u32, u33, u34, u35, u36, u37, u38, u39, u40, u41, u42, u43, u44, u45, u46, u47, u48, u49, u50, u51, u52, u53, u54, u55, u56, u57, u58, u59, u60, u61, u62, u63, u64, u65, u66, u67, u68, u69, u70, u71, f3, g3, seen3, next3, pre, rfl, hjk, hj1, hL, hSx, hf, hR, hlast, hnext, hn0, hpre⟩
                have HL := Aside0.mk hL
                have HSX := Aside0.mk hSx
                have HF := Aside0.mk hf
                have HRN := Aside0.mk hR
                have HLA := Aside0.mk hlast
                have HNE := Aside0.mk hnext
                have HN0 := Go.Lib.hid hn0
                have HPRE := Aside0.mk hpre
                clear hL hSx hf hR hlast hnext hn0 hpre
                have H25 := Aside0.mk (power_f tol.length 100 hn5 (by omega))
                have hN32 : 2 ^ tol.length ≤ 32 := by
                  have h5 := hn5
                  generalize tol.length = n at h5
                  rcases n with _ | _ | _ | _ | _ | _ | n
                  all_goals first | decide | omega
                have hmem : ∀ p : Int × Int, p ∈ allP tol.length ↔ (p.1 ≠ 0 ∧ -2 ≤ p.1 ∧ p.1 ≤ 2 ∧ 1 ≤ p.2 ∧ p.2 < ((2 ^ tol.length : Nat) : Int)) := mem_allP tol.length
                have HMEM := Aside0.mk hmem
                clear hmem
                generalize hNN : 2 ^ tol.length = N at *
                have HNN := Go.Lib.hid hNN
                clear hNN
                unfold layFrame
                cases kk with
                | zero =>
                  have hcj : decide ((j : Int) < (N : Int)) = false := decide_eq_false (by omega)
                  gi_wp2_with (first
              | (refine ⟨trivial, ?_⟩; gi_at_call 25; refine (callsIn_wide.2 (tapestryref13_power.calls 100 _ _ _ H25.out)).mono ?_; rintro e w1 ⟨rfl, ⟨⟨n1, rfl⟩⟩⟩))
                  refine ⟨kb, by omega, b + 1, vN, _, _, _, _, _, _, _, _, _, _, _, _, _, _, _, _, _, _, _, _, _, _, _, _, _, _, _, _, _, _, _, _, _, _, _, _, _, _, _, _, _, _, _, _, _, _, _, _, _, _, _, f3, g3, seen3, next3, pre, rfl, by omega, by omega, HL.out.below (pw_below_drewN (Below.refl _ _) _), HSX.out.below (pw_below_drewN (Below.refl _ _) _), HF.out, HRN.out, HLA.out, HNE.out, HN0.out, ?_⟩
                  intro p hp hlt
                  refine HPRE.out p hp ?_
                  obtain ⟨q0, q1, q2, q3, q4⟩ := (HMEM.out p).1 hp
                  unfold lexP
                  simp only
                  omega
                | succ kk =>
                  have hcj : decide ((j : Int) < (N : Int)) = true := decide_eq_true (by omega)
                  have hol : Ok tol slack l := HRN.out.ok l ((HRN.out.dom l).1 (by rw [HRN.out.here]; rfl))
                  have hl5 : l.length ≤ 5 := by have := hol.1; omega
                  have H23 := Aside0.mk (behind_f b (j : Int) ⟨hbm, hb2⟩ (by omega) l hl5 hol.range 100 (by omega))
                  have FIN : Aside0 (∀ p ∈ allP tol.length, lexP p (b, ((j + 1 : Nat) : Int)) → neg p ∈ pre ++ [neg (b, (j : Int))]) := ⟨by
                    intro p hp hlx
                    by_cases h2 : lexP p (b, (j : Int))
                    · exact List.mem_append_left _ (HPRE.out p hp h2)
                    · have : p = (b, (j : Int)) := by
                        unfold lexP at hlx h2
                        simp only at hlx h2
                        exact Prod.ext (by simp only; omega) (by simp only; omega)
                      rw [this]
                      simp⟩
                  have hseen3 : seen3.length ≤ 248832 := seen_bound hn5 seen3 HRN.out.nodup HRN.out.ok
                  have hnx3 : next3.length ≤ seen3.length := by have := HN0.out; omega
                  obtain ⟨nxt, hnxt⟩ : ∃ nxt, mv (b, (j : Int)) l = nxt := ⟨_, rfl⟩
                  have hnl : nxt.length = tol.length := by rw [← hnxt, mv_length]; exact hol.1
                  have H19 := Aside0.mk (stands_f tol nxt slack hnl (by omega) 100 (by omega))
                  rw [hnxt] at H23
                  have HNX := Go.Lib.hid hnxt
                  have HNL := Go.Lib.hid hnl
                  have hnl5 : nxt.length ≤ 5 := by omega
                  clear hnxt hnl hol
                  by_cases hok' : okL slack none tol nxt = true
                  · rw [hok'] at H19
                    have hon : Ok tol slack nxt := ⟨HNL.out, hok'⟩
                    have hfd := HF.out nxt hon
                    have HRX := Aside0.mk hon.range
                    have HON := Aside0.mk hon
                    clear hok' hon
                    cases hgn : g3 nxt with
                    | some e =>
                      rw [hgn] at hfd
                      have HFD : Aside0 (f3 (keyN nxt) = some (e : Int)) := ⟨hfd⟩
                      have HGN := Go.Lib.hid hgn
                      clear hgn hfd
                      gi_wp2_with (first
              | (refine ⟨trivial, ?_⟩; gi_at_call 25; refine (callsIn_wide.2 (tapestryref13_power.calls 100 _ _ _ H25.out)).mono ?_; rintro e w1 ⟨rfl, ⟨⟨n1, rfl⟩⟩⟩)
              | (refine ⟨trivial, ?_⟩; gi_at_call 23; refine (callsIn_wide.2 (tapestryref13_Behind.calls 100 xA xc l _ _ nxt _ (HSX.out.below (pw_below_drewN (Below.refl _ _) _)).C HSX.out.2.1 H23.out)).mono ?_; rintro e w2 ⟨v14, rfl, hR14, hB14⟩; obtain ⟨A7, c7, rfl, hS7⟩ := Sees.ofR' (B := w.heap.size) hR14; have HS7 := Aside0.mk hS7; have hB2 := (pw_below_drewN (Below.refl W.heap.size W) _).trans hB14; have hlook : ∀ n : Nat, (Instr.lookup 46 (.map (some w.heap.size)) (.string (nameS nxt)) true).run Try.prog (w2.drewN n) = .ok (.tuple #[.int .i64 e, .bool true]) (w2.drewN n) := (fun n => look_name (W := w2.drewN n) HL.out.2.1 (hB2.block _ HL.out.2.1.lt) hnl5 HFD.out); have HB2 := Aside0.mk hB2; clear hR14 hS7 hB2)
              | (refine ⟨trivial, ?_⟩; gi_at_call 19; refine (callsIn_wide.2 (tapestryref13_Stands.calls 100 A7 c7 nxt A0 c0 tol slack _ _ HS7.out.C HS7.out.2.1 (Kd.C_below HR.out (HL.out.1.trans (HB2.out.mono HL.out.1.size))) HC.out H19.out)).mono ?_; rintro e w3 ⟨rfl, ⟨⟨n2, rfl⟩⟩⟩)
              | (refine ⟨trivial, ?_⟩; gi_at_call 21; refine (callsIn_wide.2 (name_calls A7 c7 nxt _ (Kd.C_drewN HS7.out.C _) HS7.out.2.1 (by omega) HRX.out)).mono ?_; rintro e w3 ⟨rfl, ⟨⟨n3, rfl⟩⟩⟩; have HFST := HRX))
                      refine ⟨kk, by omega, j + 1, vN, _, _, _, _, _, _, _, _, _, _, _, _, _, _, _, _, _, _, _, _, _, _, _, _, _, _, _, _, _, _, _, _, _, _, _, _, _, _, _, _, _, _, _, _, _, _, _, _, _, _, f3, g3, seen3, next3, _, rfl, by have := HNN.out; omega, by omega, HL.out.below (HB2.out.trans (pw_below_drewN (Below.refl _ _) _)), HSX.out.below (HB2.out.trans (pw_below_drewN (Below.refl _ _) _)), HF.out, HRN.out.old' (b, (j : Int)) (by rw [HNX.out, HGN.out]; rfl), HLA.out, HNE.out, HN0.out, FIN.out⟩
                    | none =>
                      rw [hgn] at hfd
                      have HFD : Aside0 (f3 (keyN nxt) = none) := ⟨hfd⟩
                      have HGN := Go.Lib.hid hgn
                      clear hgn hfd
                      gi_wp2_with (first
              | (refine ⟨trivial, ?_⟩; gi_at_call 25; refine (callsIn_wide.2 (tapestryref13_power.calls 100 _ _ _ H25.out)).mono ?_; rintro e w1 ⟨rfl, ⟨⟨n1, rfl⟩⟩⟩)
              | (refine ⟨trivial, ?_⟩; gi_at_call 23; refine (callsIn_wide.2 (tapestryref13_Behind.calls 100 xA xc l _ _ nxt _ (HSX.out.below (pw_below_drewN (Below.refl _ _) _)).C HSX.out.2.1 H23.out)).mono ?_; rintro e w2 ⟨v14, rfl, hR14, hB14⟩; obtain ⟨A7, c7, rfl, hS7⟩ := Sees.ofR' (B := w.heap.size) hR14; have HS7 := Aside0.mk hS7; have hB2 := (pw_below_drewN (Below.refl W.heap.size W) _).trans hB14; have hlook : ∀ n : Nat, (Instr.lookup 46 (.map (some w.heap.size)) (.string (nameS nxt)) true).run Try.prog (w2.drewN n) = .ok (.tuple #[.int .i64 0, .bool false]) (w2.drewN n) := (fun n => look_name (W := w2.drewN n) HL.out.2.1 (hB2.block _ HL.out.2.1.lt) hnl5 HFD.out); have HB2 := Aside0.mk hB2; clear hR14 hS7 hB2)
              | (refine ⟨trivial, ?_⟩; gi_at_call 19; refine (callsIn_wide.2 (tapestryref13_Stands.calls 100 A7 c7 nxt A0 c0 tol slack _ _ HS7.out.C HS7.out.2.1 (Kd.C_below HR.out (HL.out.1.trans (HB2.out.mono HL.out.1.size))) HC.out H19.out)).mono ?_; rintro e w3 ⟨rfl, ⟨⟨n2, rfl⟩⟩⟩)
              | (have := HFST; refine ⟨trivial, ?_⟩; gi_at_call 21; refine (callsIn_wide.2 (name_calls A7 c7 nxt _ (Kd.C_drewN HS7.out.C _) HS7.out.2.1 (by omega) HRX.out)).mono ?_; rintro e w3 ⟨rfl, ⟨⟨n4, rfl⟩⟩⟩)
              | (refine ⟨trivial, ?_⟩; gi_at_call 21; refine (callsIn_wide.2 (name_calls A7 c7 nxt _ (Kd.C_drewN HS7.out.C _) HS7.out.2.1 (by omega) HRX.out)).mono ?_; rintro e w3 ⟨rfl, ⟨⟨n3, rfl⟩⟩⟩; have HFST := HRX))
                      obtain ⟨W4, hW4⟩ : ∃ W4, w2.drewN (n2 + n3 + n4) = W4 := ⟨_, rfl⟩
                      have hB4 : Below W.heap.size W W4 := by rw [← hW4]; exact pw_below_drewN HB2.out _
                      have hkx : keyOf Try.prog 9 (.string (nameS nxt)) = some (keyN nxt) := keyOf_string_mk Try.underlying9 (by rw [nameS_size, show maxLen = 9223372036854775807 by decide]; omega)
                      have hL4 := HL.out.below hB4
                      have hS4 : Sees w.heap.size W4 (A7, nxt.length, c7) nxt := by rw [← hW4]; exact HS7.out.below (pw_below_drewN (Below.refl _ _) _)
                      have hX4 := HSX.out.below hB4
                      obtain ⟨W5, hrun5, hM5, hg5⟩ := hL4.2.1.update (t := 46) (string_keyed Try.underlying9) Try.underlying46 Try.underlying3 (by unfold maxLen; omega) (n : Int) hkx (show WideAt.IsKeyLit (keyN nxt) from trivial) (wf64 (by omega) (by omega))
                      rw [hW4, hrun5]
                      have hM4 := hL4.2.1.block
                      have mv5 : ∀ {y : SV} {ly : List Int}, Sees w.heap.size W4 y ly → Sees w.heap.size W5 y ly := fun hy => hy.move hg5.size (fun k hk hk2 => by
                        rcases hk2 with hk2 | ⟨cells, t, e, _⟩
                        · exact hg5.block k hk (fun e2 => by cases e2; omega)
                        · exact hg5.block k hk (fun e2 => cells_ne e hM4 (by cases e2; rfl)))
                      have hL5 := hL4.map hg5 hM5
                      obtain ⟨v1, W6, ⟨A6, n6, c6, rfl⟩, hrun6, hL6, hmv6⟩ := hL5.push (mv5 hS4) (by omega)
                      have HL6 := Aside0.mk hL6
                      have HX6 := Aside0.mk (hmv6 _ _ (mv5 hX4))
                      clear hL4 hS4 hX4 hM4 mv5 hL5 hL6 hmv6 hkx hrun5 hM5 hg5 hW4 hB4 hlook HB2 HL HSX
                      gi_wp2_with (gi_at_builtin; refine wpListIn_append_run rfl (.tmp 66) (.tmp 68) 53 rfl _ _ _ rfl rfl hrun6 ?_)
                      have hb0 : b ≠ 0 := by
                        rintro rfl
                        have := HRN.out.at_old (j : Int)
                        rw [HNX.out, HGN.out] at this
                        cases this
                      have hjN : (j : Int) < (N : Int) := of_decide_eq_true hcj
                      have hnew := HRN.out.new' (b, (j : Int)) ((HMEM.out _).2 ⟨hb0, hbm, hb2, by simp only; omega, by simp only; omega⟩) (by rw [HNX.out]; exact HON.out) (by rw [HNX.out, HGN.out]; rfl)
                      rw [HNX.out, show n - 1 + 1 = n by omega, List.append_assoc] at hnew
                      have hne : ∀ s, g3 s ≠ none → s ≠ nxt := fun s hs e => hs (by rw [e]; exact HGN.out)
                      refine ⟨kk, by omega, j + 1, .slice A6 n6 c6, _, _, _, _, _, _, _, _, _, _, _, _, _, _, _, _, _, _, _, _, _, _, _, _, _, _, _, _, _, _, _, _, _, _, _, _, _, _, _, _, _, _, _, _, _, _, _, _, _, _, updL f3 (keyN nxt) n, fun s => if s = nxt then some n else g3 s, seen3 ++ [nxt], next3 ++ [nxt], _, rfl, by have := HNN.out; omega, by omega, by rw [List.length_append]; exact HL6.out, HX6.out, ?_, hnew, fun s hs => ?_, fun s hs => ?_, by have := HN0.out; simp; omega, FIN.out⟩
                      · intro s hs
                        by_cases e : s = nxt
                        · subst e; simp [updL]
                        · have h1 : keyN s ≠ keyN nxt := fun h => e (keyN_inj hs.range HRX.out h)
                          simp [updL, h1, e]
                          exact HF.out s hs
                      · show (if s = nxt then some n else g3 s) = _
                        rw [if_neg (hne s (by rw [HLA.out s hs]; simp))]
                        exact HLA.out s hs
                      · rcases List.mem_append.1 hs with h | h
                        · show (if s = nxt then some n else g3 s) = _
                          rw [if_neg (hne s (by rw [HNE.out s h]; simp))]
                          exact HNE.out s h
                        · simp at h
                          show (if s = nxt then some n else g3 s) = _
                          rw [if_pos h]
                  · have hok2 : okL slack none tol nxt = false := by simpa using hok'
                    rw [hok2] at H19
                    have HOK := Go.Lib.hid hok2
                    clear hok' hok2
                    gi_wp2_with (first
              | (refine ⟨trivial, ?_⟩; gi_at_call 25; refine (callsIn_wide.2 (tapestryref13_power.calls 100 _ _ _ H25.out)).mono ?_; rintro e w1 ⟨rfl, ⟨⟨n1, rfl⟩⟩⟩)
              | (refine ⟨trivial, ?_⟩; gi_at_call 23; refine (callsIn_wide.2 (tapestryref13_Behind.calls 100 xA xc l _ _ nxt _ (HSX.out.below (pw_below_drewN (Below.refl _ _) _)).C HSX.out.2.1 H23.out)).mono ?_; rintro e w2 ⟨v14, rfl, hR14, hB14⟩; obtain ⟨A7, c7, rfl, hS7⟩ := Sees.ofR' (B := w.heap.size) hR14; have HS7 := Aside0.mk hS7; have hB2 := (pw_below_drewN (Below.refl W.heap.size W) _).trans hB14; have HB2 := Aside0.mk hB2; clear hR14 hS7 hB2)
              | (refine ⟨trivial, ?_⟩; gi_at_call 19; refine (callsIn_wide.2 (tapestryref13_Stands.calls 100 A7 c7 nxt A0 c0 tol slack _ _ HS7.out.C HS7.out.2.1 (Kd.C_below HR.out (HL.out.1.trans (HB2.out.mono HL.out.1.size))) HC.out H19.out)).mono ?_; rintro e w3 ⟨rfl, ⟨⟨n2, rfl⟩⟩⟩))
                    refine ⟨kk, by omega, j + 1, vN, _, _, _, _, _, _, _, _, _, _, _, _, _, _, _, _, _, _, _, _, _, _, _, _, _, _, _, _, _, _, _, _, _, _, _, _, _, _, _, _, _, _, _, _, _, _, _, _, _, _, f3, g3, seen3, next3, _, rfl, by have := HNN.out; omega, by omega, HL.out.below (HB2.out.trans (pw_below_drewN (Below.refl _ _) _)), HSX.out.below (HB2.out.trans (pw_below_drewN (Below.refl _ _) _)), HF.out, HRN.out.skip' (b, (j : Int)) ?_, HLA.out, HNE.out, HN0.out, FIN.out⟩
                    rw [HNX.out]
                    rintro ⟨_, h⟩
                    rw [HOK.out] at h
                    cases h
end Go.Proofs.Ytehchpjjcohecaa.X
