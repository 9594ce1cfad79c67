import Derived.Test.YtehchpjjcohecaaC27
/- The plain law of the passes: ways to stand, how far each is from where loops are to be, the search in breadth. -/
namespace Go.Proofs.Ytehchpjjcohecaa.X
set_option linter.unusedVariables false

/-! ### Passes -/
def mvN (b : Int) : Nat → List Int → List Int
  | _, [] => []
  | w, x :: xs => (if w % 2 = 1 then x + b else x) :: mvN b (w / 2) xs
def mv (p : Int × Int) (l : List Int) : List Int := mvN p.1 p.2.toNat l
def neg (p : Int × Int) : Int × Int := (-p.1, p.2)
theorem mvN_length (b : Int) : ∀ (w : Nat) (l : List Int), (mvN b w l).length = l.length
  | _, [] => rfl
  | w, _ :: xs => by simp [mvN, mvN_length b (w / 2) xs]
theorem mv_length (p : Int × Int) (l : List Int) : (mv p l).length = l.length := mvN_length _ _ _
theorem mvN_back (b : Int) : ∀ (w : Nat) (l : List Int), mvN b w (mvN (-b) w l) = l
  | _, [] => rfl
  | w, x :: xs => by
    simp only [mvN, mvN_back b (w / 2) xs]
    split
    · rw [show x + -b + b = x by omega]
    · rfl
theorem mv_neg (p : Int × Int) (l : List Int) : mv p (mv (neg p) l) = l := mvN_back _ _ _
theorem neg_neg (p : Int × Int) : neg (neg p) = p := by simp [neg]
theorem neg_mv (p : Int × Int) (l : List Int) : mv (neg p) (mv p l) = l := by
  have := mv_neg (neg p) l
  rwa [neg_neg] at this
theorem mem_allP (n : Nat) (p : Int × Int) : p ∈ allP n ↔ (p.1 ≠ 0 ∧ -2 ≤ p.1 ∧ p.1 ≤ 2 ∧ 1 ≤ p.2 ∧ p.2 < ((2 ^ n : Nat) : Int)) := by
  obtain ⟨b, w⟩ := p
  have hp : 1 ≤ 2 ^ n := Nat.one_le_two_pow
  generalize hN : 2 ^ n = N at hp
  unfold allP uptoP rowP
  rw [hN]
  simp only [List.mem_flatMap, List.mem_range]
  constructor
  · rintro ⟨i, hi, h⟩
    split at h
    · cases h
    · rename_i hz
      simp only [List.mem_map, List.mem_range, Prod.mk.injEq] at h
      obtain ⟨j, hj, rfl, rfl⟩ := h
      refine ⟨hz, ?_, ?_, ?_, ?_⟩ <;> omega
  · rintro ⟨h0, h1, h2, h3, h4⟩
    refine ⟨(b + 2).toNat, by omega, ?_⟩
    have e : (((b + 2).toNat : Nat) : Int) - 2 = b := by omega
    rw [e, if_neg h0]
    simp only [List.mem_map, List.mem_range, Prod.mk.injEq]
    exact ⟨(w - 1).toNat, by omega, trivial, by omega⟩
theorem neg_mem (n : Nat) (p : Int × Int) (h : p ∈ allP n) : neg p ∈ allP n := by
  rw [mem_allP] at h ⊢
  obtain ⟨h0, h1, h2, h3, h4⟩ := h
  simp only [neg]
  omega

/-! ### Ways to stand -/
def okL (slack : Int) : Option (Int × Int) → List Int → List Int → Bool
  | _, _, [] => true
  | _, [], _ :: _ => false
  | p, t :: ts, x :: xs => decide (0 ≤ x) && decide (x < 12) && (match p with | none => true | some (y, u) => decide (0 ≤ x - y) && decide (x - y ≤ slack) && !(decide (x - y = 0) && decide (t ≠ u))) && okL slack (some (x, t)) ts xs
def Ok (tol : List Int) (slack : Int) (s : List Int) : Prop := s.length = tol.length ∧ okL slack none tol s = true
instance (tol : List Int) (slack : Int) (s : List Int) : Decidable (Ok tol slack s) := by unfold Ok; infer_instance
theorem okL_range (slack : Int) : ∀ (p : Option (Int × Int)) (ts xs : List Int), okL slack p ts xs = true → ∀ x ∈ xs, 0 ≤ x ∧ x < 12
  | _, _, [], _ => fun x hx => by cases hx
  | _, [], _ :: _, h => by simp [okL] at h
  | p, t :: ts, x :: xs, h => by
    simp only [okL, Bool.and_eq_true, decide_eq_true_eq] at h
    intro y hy
    rcases List.mem_cons.1 hy with rfl | hy
    · exact h.1.1
    · exact okL_range slack _ ts xs h.2 y hy
theorem Ok.range {tol : List Int} {slack : Int} {s : List Int} (h : Ok tol slack s) : ∀ x ∈ s, 0 ≤ x ∧ x < 12 := okL_range slack _ _ _ h.2

/-! ### Keys -/
def keyF (a : Int) (s : List Int) : Int := s.foldl (fun n x => n * 12 + x) a
def keyS (s : List Int) : Int := keyF 0 s
theorem keyF_eq : ∀ (s : List Int) (a : Int), keyF a s = a * 12 ^ s.length + keyF 0 s
  | [], a => by simp [keyF]
  | x :: xs, a => by
    have h1 : keyF a (x :: xs) = keyF (a * 12 + x) xs := rfl
    have h2 : keyF 0 (x :: xs) = keyF (0 * 12 + x) xs := rfl
    rw [h1, h2, keyF_eq xs (a * 12 + x), keyF_eq xs (0 * 12 + x)]
    simp only [List.length_cons, Int.pow_succ, Int.zero_mul, Int.zero_add, Int.add_mul]
    rw [Int.mul_comm (12 ^ xs.length) 12, ← Int.mul_assoc, Int.add_assoc]
theorem keyF_range : ∀ (s : List Int), (∀ x ∈ s, 0 ≤ x ∧ x < 12) → 0 ≤ keyF 0 s ∧ keyF 0 s < 12 ^ s.length
  | [], _ => by simp [keyF]
  | x :: xs, h => by
    obtain ⟨h0, h1⟩ := h x List.mem_cons_self
    obtain ⟨i0, i1⟩ := keyF_range xs (fun y hy => h y (List.mem_cons_of_mem _ hy))
    have e : keyF 0 (x :: xs) = x * 12 ^ xs.length + keyF 0 xs := by
      have h2 : keyF 0 (x :: xs) = keyF (0 * 12 + x) xs := rfl
      rw [h2, keyF_eq xs (0 * 12 + x)]; simp
    have hp : (0 : Int) < 12 ^ xs.length := Int.pow_pos (by omega)
    have e2 : (12 : Int) ^ (x :: xs).length = 12 ^ xs.length * 12 := by rw [List.length_cons, Int.pow_succ]
    rw [e, e2]
    generalize (12 : Int) ^ xs.length = N at *
    have a1 : 0 ≤ x * N := Int.mul_nonneg h0 (by omega)
    have a2 : x * N ≤ 11 * N := Int.mul_le_mul_of_nonneg_right (by omega) (by omega)
    omega
theorem keyF_inj : ∀ (s t : List Int), s.length = t.length → (∀ x ∈ s, 0 ≤ x ∧ x < 12) → (∀ x ∈ t, 0 ≤ x ∧ x < 12) → keyF 0 s = keyF 0 t → s = t
  | [], [], _, _, _, _ => rfl
  | [], _ :: _, h, _, _, _ => by simp at h
  | _ :: _, [], h, _, _, _ => by simp at h
  | x :: xs, y :: ys, hl, hs, ht, he => by
    have hl' : xs.length = ys.length := by simpa using hl
    have ex : keyF 0 (x :: xs) = x * 12 ^ xs.length + keyF 0 xs := by
      have h2 : keyF 0 (x :: xs) = keyF (0 * 12 + x) xs := rfl
      rw [h2, keyF_eq xs (0 * 12 + x)]; simp
    have ey : keyF 0 (y :: ys) = y * 12 ^ ys.length + keyF 0 ys := by
      have h2 : keyF 0 (y :: ys) = keyF (0 * 12 + y) ys := rfl
      rw [h2, keyF_eq ys (0 * 12 + y)]; simp
    obtain ⟨i0, i1⟩ := keyF_range xs (fun z hz => hs z (List.mem_cons_of_mem _ hz))
    obtain ⟨j0, j1⟩ := keyF_range ys (fun z hz => ht z (List.mem_cons_of_mem _ hz))
    rw [ex, ey, ← hl'] at he
    rw [← hl'] at j1
    have hN : (0 : Int) < 12 ^ xs.length := Int.pow_pos (by omega)
    generalize (12 : Int) ^ xs.length = N at *
    have hxy : x = y := by
      rcases Int.lt_trichotomy x y with h | h | h
      · have : (x + 1) * N ≤ y * N := Int.mul_le_mul_of_nonneg_right (by omega) (by omega)
        rw [Int.add_mul] at this
        omega
      · exact h
      · have : (y + 1) * N ≤ x * N := Int.mul_le_mul_of_nonneg_right (by omega) (by omega)
        rw [Int.add_mul] at this
        omega
    subst hxy
    rw [keyF_inj xs ys hl' (fun z hz => hs z (List.mem_cons_of_mem _ hz)) (fun z hz => ht z (List.mem_cons_of_mem _ hz)) (by omega)]
theorem Ok.key_inj {tol : List Int} {slack : Int} {s t : List Int} (h : Ok tol slack s) (h' : Ok tol slack t) (e : keyS s = keyS t) : s = t :=
  keyF_inj s t (h.1.trans h'.1.symm) h.range h'.range e
theorem Ok.key_range {tol : List Int} {slack : Int} {s : List Int} (h : Ok tol slack s) (hn : tol.length ≤ 5) : 0 ≤ keyS s ∧ keyS s < 248832 := by
  obtain ⟨h0, h1⟩ := keyF_range s h.range
  refine ⟨h0, Int.lt_of_lt_of_le h1 ?_⟩
  rw [h.1]
  generalize tol.length = n at hn
  rcases n with _ | _ | _ | _ | _ | _ | n
  all_goals first | decide | omega

/-! ### How far -/
def Rch (tol : List Int) (slack : Int) : Nat → List Int → Prop
  | 0, s => s = tol
  | k + 1, s => ∃ p ∈ allP tol.length, Ok tol slack (mv p s) ∧ Rch tol slack k (mv p s)
theorem exists_least (P : Nat → Prop) (h : ∃ k, P k) : ∃ k, P k ∧ ∀ j, P j → k ≤ j := by
  obtain ⟨k, hk⟩ := h
  induction k using Nat.strongRecOn with
  | _ k ih =>
    by_cases hx : ∃ j, j < k ∧ P j
    · obtain ⟨j, hj, hp⟩ := hx
      exact ih j hj hp
    · exact ⟨k, hk, fun j hj => Nat.le_of_not_lt (fun hlt => hx ⟨j, hlt, hj⟩)⟩
open Classical in
noncomputable def dist (tol : List Int) (slack : Int) (s : List Int) : Option Nat := if h : ∃ k, Rch tol slack k s then some (Classical.choose (exists_least _ h)) else none
theorem dist_le {tol : List Int} {slack : Int} {s : List Int} {k : Nat} (h : Rch tol slack k s) : ∃ d, dist tol slack s = some d ∧ d ≤ k ∧ Rch tol slack d s := by
  have hx : ∃ k, Rch tol slack k s := ⟨k, h⟩
  obtain ⟨h1, h2⟩ := Classical.choose_spec (exists_least _ hx)
  exact ⟨_, dif_pos hx, h2 k h, h1⟩
theorem dist_some {tol : List Int} {slack : Int} {s : List Int} {d : Nat} (h : dist tol slack s = some d) : Rch tol slack d s ∧ ∀ k, Rch tol slack k s → d ≤ k := by
  unfold dist at h
  split at h
  · rename_i hx
    cases h
    exact Classical.choose_spec (exists_least _ hx)
  · cases h
theorem dist_none {tol : List Int} {slack : Int} {s : List Int} (h : dist tol slack s = none) (k : Nat) : ¬ Rch tol slack k s := by
  intro hk
  obtain ⟨d, e, _⟩ := dist_le hk
  rw [h] at e
  cases e

/-! ### At most so many -/
theorem nodup_bound : ∀ (N : Nat) (l : List Nat), l.Nodup → (∀ x ∈ l, x < N) → l.length ≤ N
  | 0, l, _, h => by
    cases l with
    | nil => simp
    | cons x xs => exact absurd (h x List.mem_cons_self) (by omega)
  | N + 1, l, hn, h => by
    have h1 := nodup_bound N (l.erase N) (hn.erase N) (fun x hx => by
      have hx' := (hn.mem_erase_iff.1 hx)
      have := h x hx'.2
      have := hx'.1
      omega)
    by_cases hm : N ∈ l
    · have := List.length_erase_of_mem hm
      omega
    · rw [List.erase_of_not_mem hm] at h1
      omega
theorem seen_bound {tol : List Int} {slack : Int} (hn : tol.length ≤ 5) (seen : List (List Int)) (hd : seen.Nodup) (ho : ∀ s ∈ seen, Ok tol slack s) : seen.length ≤ 248832 := by
  have h := nodup_bound 248832 (seen.map (fun s => (keyS s).toNat)) ?_ ?_
  · simpa using h
  · rw [List.Nodup, List.pairwise_map]
    refine hd.imp_of_mem ?_
    intro a b ha hb hne e
    have h1 := (ho a ha).key_range hn
    have h2 := (ho b hb).key_range hn
    exact hne ((ho a ha).key_inj (ho b hb) (by omega))
  · intro x hx
    obtain ⟨s, hs, rfl⟩ := List.mem_map.1 hx
    have h1 := (ho s hs).key_range hn
    omega
end Go.Proofs.Ytehchpjjcohecaa.X
