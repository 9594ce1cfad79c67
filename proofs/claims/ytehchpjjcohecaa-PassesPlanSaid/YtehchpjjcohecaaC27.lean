import Derived.RangeFuncNested
import Derived.RangeFuncBound
import Derived.RangeFuncCalls
import Derived.RangeFuncLeaves
import Derived.Shelf.Abstract
import Derived.WalkKit
import Derived.OwnWalkIn
import Derived.TacticsInMore
import Derived.LoopNIn
import Derived.LoopIn
import Derived.Lib.Hide
import Derived.Test.YtehchpjjcohecaaX0
/- passes.all: all passes, by rising By, then Which: an iterator. -/
namespace Go.Proofs.Ytehchpjjcohecaa.X
open Go.RowKit Go.Shelf
set_option linter.unusedVariables false
set_option linter.unusedSimpArgs false
attribute [local go_sem] Oper.semAt_some

/-- What a round that goes on keeps: the box of the iterator. -/
def KeepB (Bn : Nat) (A B : World) : Prop := B.heap[Bn]? = A.heap[Bn]?
theorem KeepB.refl (Bn : Nat) (A : World) : KeepB Bn A A := rfl
theorem KeepB.trans {Bn : Nat} {A B C : World} (h : KeepB Bn A B) (k : KeepB Bn B C) : KeepB Bn A C := Eq.trans k h
theorem KeepB.cell {Bn : Nat} {A B : World} (h : KeepB Bn A B) (o : Nat) : B.cell? ⟨Bn, o, none⟩ = A.cell? ⟨Bn, o, none⟩ := by
  have h' : B.heap[Bn]? = A.heap[Bn]? := h
  simp [World.cell?, h']
/-- The passes of one By. -/
def rowP (n : Nat) (b : Int) : List (Int × Int) := if b = 0 then [] else (List.range (2 ^ n - 1)).map (fun (j : Nat) => (b, (j : Int) + 1))
/-- All passes whose By is below c - 2. -/
def uptoP (n c : Nat) : List (Int × Int) := (List.range c).flatMap (fun (i : Nat) => rowP n ((i : Int) - 2))
def allP (n : Nat) : List (Int × Int) := uptoP n 5

theorem pow_le (n : Nat) (hn : n ≤ 5) : (2 : Int) ^ n ≤ 32 ∧ 1 ≤ (2 : Int) ^ n ∧ (2 : Int) ^ n = ((2 ^ n : Nat) : Int) ∧ 1 ≤ 2 ^ n := by
  rcases n with _ | _ | _ | _ | _ | _ | n
  all_goals first | (refine ⟨?_, ?_, ?_, ?_⟩ <;> decide) | omega
theorem wrap_pow (n : Nat) (hn : n ≤ 5) : wrap64 (2 ^ n) = ((2 ^ n : Nat) : Int) := by
  obtain ⟨h1, h2, h3, _⟩ := pow_le n hn
  rw [← h3]
  unfold wrap64
  omega
theorem pow_ge (n : Nat) (h1 : 1 ≤ n) (hn : n ≤ 5) : (1 : Int) < ((2 ^ n : Nat) : Int) := by
  rcases n with _ | _ | _ | _ | _ | _ | n
  all_goals first | omega | decide
theorem rowP_length (n : Nat) (b : Int) (hb : b ≠ 0) : (rowP n b).length = 2 ^ n - 1 := by simp [rowP, hb]
theorem rowP_get (n : Nat) (b : Int) (hb : b ≠ 0) (j : Nat) (hj : j < (rowP n b).length) : (rowP n b)[j] = (b, (j : Int) + 1) := by
  unfold rowP at hj ⊢
  simp [hb] 
theorem take_rowP (n : Nat) (b : Int) (hb : b ≠ 0) (j : Nat) (hj : j < (rowP n b).length) : (rowP n b).take (j + 1) = (rowP n b).take j ++ [(b, (j : Int) + 1)] := by
  rw [List.take_succ_eq_append_getElem hj, rowP_get n b hb j hj]
theorem uptoP_succ (n c : Nat) : uptoP n (c + 1) = uptoP n c ++ rowP n ((c : Int) - 2) := by
  unfold uptoP
  rw [List.range_succ, List.flatMap_append]
  simp
theorem uptoP_prefix (n : Nat) {c d : Nat} (h : c ≤ d) : uptoP n c <+: uptoP n d := by
  obtain ⟨k, rfl⟩ := Nat.exists_eq_add_of_le h
  clear h
  induction k with
  | zero => exact List.prefix_refl _
  | succ k ih =>
    rw [← Nat.add_assoc, uptoP_succ]
    exact ih.trans (List.prefix_append _ _)
theorem part_prefix (n c j : Nat) (hc : c < 5) : uptoP n c ++ (rowP n ((c : Int) - 2)).take j <+: allP n := by
  refine List.IsPrefix.trans ?_ (uptoP_prefix n (Nat.succ_le_of_lt hc))
  rw [Nat.succ_eq_add_one, uptoP_succ]
  exact (List.prefix_append_right_inj _).2 (List.take_prefix _ _)
theorem part_length (n c j : Nat) (hc : c < 5) (hj : j < (rowP n ((c : Int) - 2)).length) : (uptoP n c ++ (rowP n ((c : Int) - 2)).take j).length < (allP n).length := by
  have h1 := part_prefix n c (j + 1) hc
  have h2 := h1.length_le
  simp only [List.length_append, List.length_take] at h2 ⊢
  omega

set_option maxRecDepth 100000 in
set_option maxHeartbeats 1000000 in
theorem all1_in (F : Fence) (m : Nat) (h6 : F.fn 27) (hro : F.round = none) (hm : 1 ≤ m) (l Bn : Nat) (n : Nat) (hn1 : 1 ≤ n) (hn : n ≤ 5) (J Jx : List (Int × Int) → World → Prop)
    (hY : ∀ pre x W, J pre W → pre ++ [x] <+: allP n → YieldAt F (m - 1) Try.prog l #[.agg #[.int .i64 x.1, .int .i64 x.2]] W fun e W' =>
      (e = .returned (.bool true) ∧ J (pre ++ [x]) W' ∧ KeepB Bn W W') ∨ (e = .returned (.bool false) ∧ Jx (pre ++ [x]) W'))
    (W : World) (hBn : W.cell? ⟨Bn, 0, none⟩ = some (.int .i64 n)) (h0 : J [] W) :
    CallsIn F m Try.prog 27 #[.func (.yield l) #[] #[], .pointer (some ⟨Bn, 0, none⟩)] W fun e W' => (∃ v, e = .returned v) ∧
      ((∃ ys, ys = allP n ∧ J ys W') ∨ (∃ pre, pre <+: allP n ∧ Jx pre W')) := by
  refine callsIn_of_wp Try.func27 rfl h6 ?_ hro
  simp only [Try.ntmps27, List.size_toArray, List.length_cons, List.length_nil, Nat.reduceAdd, Nat.reduceSub, Array.replicate_succ, Array.replicate_zero, List.push_toArray, List.append_toArray, List.nil_append, List.cons_append]
  gi_wp2
  gi_loopw [3] (fun p wr => ∃ c : Nat, c ≤ 5 ∧ p = .int .i64 ((c : Int) - 2) ∧ J (uptoP n c) wr ∧ KeepB Bn W wr)
    (fun p wr => 5 - (intOf p + 2).toNat)
  case atStart => exact ⟨0, by omega, rfl, h0, KeepB.refl _ _⟩
  case round =>
    obtain ⟨c, hc, rfl, hJ, hB⟩ := hrel
    have hb1 : wr.cell? ⟨Bn, 0, none⟩ = some (.int .i64 n) := (hB.cell 0).trans hBn
    by_cases hlt5 : c < 5
    · have hd5 : decide ((c : Int) - 2 ≤ 2) = true := by simp; omega
      gi_wp2
      gi_loopw [4] (fun p wr => ∃ j : Nat, j ≤ (rowP n ((c : Int) - 2)).length ∧ p = .int .i64 ((j : Int) + 1) ∧ J (uptoP n c ++ (rowP n ((c : Int) - 2)).take j) wr ∧ KeepB Bn W wr)
        (fun p wr => (rowP n ((c : Int) - 2)).length + 1 - (intOf p).toNat)
      case atStart => exact ⟨0, by omega, rfl, by simpa using hJ, hB⟩
      case round =>
        obtain ⟨j, hj, rfl, hJ', hB'⟩ := hrel
        have hb2 : wr.cell? ⟨Bn, 0, none⟩ = some (.int .i64 n) := (hB'.cell 0).trans hBn
        have hwp := wrap_pow n hn
        by_cases hz : (c : Int) - 2 = 0
        · have hl : (rowP n ((c : Int) - 2)).length = 0 := by rw [hz]; rfl
          have hj0 : j = 0 := by omega
          subst hj0
          have hJ3 : J (uptoP n (c + 1)) wr := by
            rw [uptoP_succ, hz]
            simpa [rowP] using hJ'
          have hz1 : ((c : Int) - 2 != 0) = false := by simp [hz]
          have hz2 : ((c : Int) - 2 == 0) = true := by simp [hz]
          have hq : decide ((1 : Int) < wrap64 (2 ^ n)) = true := by
            rw [hwp]
            exact decide_eq_true (pow_ge n hn1 hn)
          clear hz hl hwp hJ hB hJ'
          all_goals
            gi_wp2
            go_roundw
            case rel => exact ⟨c + 1, by omega, by go_num, hJ3, hB'⟩
            case measure => simp [intOf]; omega
        · have hl := rowP_length n _ hz
          obtain ⟨hp1, hp2, hp3, hp4⟩ := pow_le n hn
          have hz1 : ((c : Int) - 2 != 0) = true := by simp [hz]
          have hz2 : ((c : Int) - 2 == 0) = false := by simp [hz]
          by_cases hj2 : j < (rowP n ((c : Int) - 2)).length
          · have hd : decide ((j : Int) + 1 < wrap64 (2 ^ n)) = true := by
              rw [hwp]
              have := hl
              rw [hl] at hj2
              simp
              omega
            obtain ⟨fn, tmps, assign, body, hy, hR⟩ := hY _ ((c : Int) - 2, (j : Int) + 1) wr hJ' (by have := part_prefix n c (j + 1) hlt5; rw [take_rowP n _ hz j hj2, ← List.append_assoc] at this; exact this)
            dsimp only at hy
            have HT := Go.Lib.hid (take_rowP n _ hz j hj2)
            have HL := Go.Lib.hid hl
            have HW := Go.Lib.hid hwp
            have HP := Go.Lib.hid hp3
            have hjb : j ≤ 32 := by rw [hl] at hj; omega
            clear hl hwp hp1 hp2 hp3 hp4 hz
            gi_wp2
            refine hR.mono ?_
            rintro e W3 (⟨rfl, hJ3, hk3⟩ | ⟨rfl, hJx3⟩)
            · gi_wp2
              go_roundw
              case rel =>
                have hrel : ∃ j_1 : Nat, j_1 ≤ (rowP n ((c : Int) - 2)).length ∧ Value.int .i64 ((j : Int) + 1 + 1) = .int .i64 ((j_1 : Int) + 1) ∧ J (uptoP n c ++ (rowP n ((c : Int) - 2)).take j_1) W3 ∧ KeepB Bn W W3 := ⟨j + 1, by omega, by go_num, by rw [HT.out, ← List.append_assoc]; exact hJ3, hB'.trans hk3⟩
                first | exact hrel | ((repeat apply Exists.intro); exact ⟨hrel, rfl⟩)
              case measure => simp [intOf]; omega
            · gi_wp2
              refine bodyPost_ret (results_none rfl _ _ _) rfl ?_
              exact ⟨⟨_, rfl⟩, .inr ⟨_, by have := part_prefix n c (j + 1) hlt5; rw [HT.out, ← List.append_assoc] at this; exact this, hJx3⟩⟩
          · have hjl : j = (rowP n ((c : Int) - 2)).length := by omega
            have hd : decide ((j : Int) + 1 < wrap64 (2 ^ n)) = false := by
              rw [hwp]
              rw [hl] at hjl
              simp
              omega
            have hJ3 : J (uptoP n (c + 1)) wr := by
              rw [uptoP_succ]
              rw [hjl, List.take_length] at hJ'
              exact hJ'
            clear hl hwp hp1 hp2 hp3 hp4 hz hjl hJ hB hJ'
            gi_wp2
            go_roundw
            case rel => exact ⟨c + 1, by omega, by go_num, hJ3, hB'⟩
            case measure => simp [intOf]; omega
    · gi_wp2
      go_end0
      exact ⟨⟨_, rfl⟩, .inl ⟨_, rfl, by obtain rfl : c = 5 := by omega
                                        exact hJ⟩⟩

set_option maxHeartbeats 1000000 in
theorem all_in (F : Fence) (m : Nat) (h5 : F.fn 16) (hro : F.round = none) (n : Nat) (w : World) :
    CallsIn F m Try.prog 16 #[.int .i64 n] w fun e w' => e = .returned (.func (.func 27) #[] #[.pointer (some ⟨w.heap.size, 0, none⟩)]) ∧ w' = w.alloc (.cells #[.int .i64 n] 3) := by
  refine callsIn_of_wp Try.func16 rfl h5 ?_ hro
  simp only [Try.ntmps16, List.size_toArray, List.length_cons, List.length_nil, Nat.reduceAdd, Nat.reduceSub, Array.replicate_succ, Array.replicate_zero, List.push_toArray, List.append_toArray, List.nil_append, List.cons_append]
  gi_wp2
  go_ret
  exact ⟨rfl, rfl⟩

/-- A pass. -/
abbrev PN (n : Nat) := { p : Int × Int // p ∈ allP n }
/-- **passes.all HANDS BACK A VALUE THAT 'SeqStopsK', AT 'Kp := KeepB Bn'** -/
theorem all_stops (F : Fence) (m : Nat) (h6 : F.fn 27) (hro : F.round = none) (hm : 1 ≤ m) (Bn : Nat) (n : Nat) (hn1 : 1 ≤ n) (hn : n ≤ 5) (w : World) (hBn : Bn < w.heap.size)
    (hc : w.cell? ⟨Bn, 0, none⟩ = some (.int .i64 n)) :
    SeqStopsK F m Try.prog 27 #[.pointer (some ⟨Bn, 0, none⟩)] (fun x : PN n => #[Value.agg #[.int .i64 x.1.1, .int .i64 x.1.2]]) (KeepB Bn) (fun ys => ys.map Subtype.val = allP n) (fun pre => pre.map Subtype.val <+: allP n) (allP n).length w := by
  intro l J Jx W hW _ _ hY h0
  refine CallsIn.mono (all1_in F m h6 hro hm l Bn n hn1 hn (fun l W => ∃ pre : List (PN n), pre.map Subtype.val = l ∧ J pre W) (fun l W => ∃ pre : List (PN n), pre.map Subtype.val = l ∧ Jx pre W) ?_ W ((hW.cell (p := ⟨Bn, 0, none⟩) hBn).trans hc) ⟨[], rfl, h0⟩) ?_
  · rintro l x W1 ⟨pre, rfl, hJ⟩ hp
    have hx : x ∈ allP n := hp.subset (by simp)
    have hlen : pre.length < (allP n).length := by have := hp.length_le; simp at this; omega
    refine YieldAt.mono (hY pre ⟨x, hx⟩ W1 hJ hlen) ?_
    rintro e W' (⟨rfl, h1, h2⟩ | ⟨rfl, h1⟩)
    · exact .inl ⟨rfl, ⟨pre ++ [⟨x, hx⟩], by simp, h1⟩, h2⟩
    · exact .inr ⟨rfl, pre ++ [⟨x, hx⟩], by simp, h1⟩
  · rintro e W' ⟨hv, ⟨ys, rfl, xs, hxs, hJ⟩ | ⟨p, hp, xs, rfl, hJ⟩⟩
    · exact ⟨hv, .inl ⟨xs, hxs, hJ⟩⟩
    · exact ⟨hv, .inr ⟨xs, hp, hJ⟩⟩
end Go.Proofs.Ytehchpjjcohecaa.X
