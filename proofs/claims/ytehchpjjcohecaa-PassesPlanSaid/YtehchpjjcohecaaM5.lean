import Derived.Test.YtehchpjjcohecaaM4
/- The mirrored puzzle is as far as the puzzle. -/
namespace Go.Proofs.Ytehchpjjcohecaa.X
set_option linter.unusedVariables false
set_option linter.unusedSimpArgs false

def mir (l : List Int) : List Int := (l.map (fun x => 11 - x)).reverse
theorem mir_length (l : List Int) : (mir l).length = l.length := by simp [mir]
theorem mir_mir (l : List Int) : mir (mir l) = l := by
  simp only [mir, List.map_reverse, List.reverse_reverse, List.map_map]
  have : ((fun x : Int => 11 - x) ∘ fun x : Int => 11 - x) = id := by funext x; show 11 - (11 - x) = x; omega
  rw [this, List.map_id]

/-! ### Passes as rows of bits -/
def mvB (b : Int) : List Bool → List Int → List Int
  | c :: cs, x :: xs => (if c then x + b else x) :: mvB b cs xs
  | _, _ => []
def bits : Nat → Nat → List Bool
  | 0, _ => []
  | n + 1, w => decide (w % 2 = 1) :: bits n (w / 2)
theorem bits_length : ∀ n w, (bits n w).length = n
  | 0, _ => rfl
  | n + 1, w => by simp [bits, bits_length n]
theorem mvN_bits (b : Int) : ∀ (l : List Int) (w : Nat), mvN b w l = mvB b (bits l.length w) l
  | [], _ => rfl
  | x :: xs, w => by
    simp only [mvN, List.length_cons, bits, mvB, mvN_bits b xs]
    by_cases h : w % 2 = 1 <;> simp [h]
def unbits : List Bool → Nat
  | [] => 0
  | c :: cs => (if c then 1 else 0) + 2 * unbits cs
theorem unbits_lt : ∀ cs, unbits cs < 2 ^ cs.length
  | [] => by simp [unbits]
  | c :: cs => by
    have := unbits_lt cs
    simp only [unbits, List.length_cons, Nat.pow_succ]
    split <;> omega
theorem bits_unbits : ∀ cs, bits cs.length (unbits cs) = cs
  | [] => rfl
  | c :: cs => by
    simp only [List.length_cons, bits, unbits]
    have h1 : ((if c then 1 else 0) + 2 * unbits cs) / 2 = unbits cs := by split <;> omega
    have h2 : decide (((if c then 1 else 0) + 2 * unbits cs) % 2 = 1) = c := by cases c <;> simp <;> try omega
    rw [h1, h2, bits_unbits cs]
theorem unbits_pos : ∀ cs, true ∈ cs → 1 ≤ unbits cs
  | c :: cs, h => by
    simp only [unbits]
    rcases List.mem_cons.1 h with h | h
    · subst h; simp
    · have := unbits_pos cs h; omega
theorem bits_true : ∀ (n w : Nat), 1 ≤ w → w < 2 ^ n → true ∈ bits n w
  | 0, w, h1, h2 => by simp at h2; omega
  | n + 1, w, h1, h2 => by
    simp only [bits, List.mem_cons]
    by_cases h : w % 2 = 1
    · left; simp [h]
    · right
      exact bits_true n (w / 2) (by omega) (by rw [Nat.pow_succ] at h2; omega)
theorem mvB_append (b : Int) : ∀ (cs : List Bool) (xs : List Int) (ds : List Bool) (ys : List Int), cs.length = xs.length → mvB b (cs ++ ds) (xs ++ ys) = mvB b cs xs ++ mvB b ds ys
  | [], [], _, _, _ => rfl
  | c :: cs, x :: xs, ds, ys, h => by
    simp only [List.cons_append, mvB]
    rw [mvB_append b cs xs ds ys (by simpa using h)]
  | [], _ :: _, _, _, h => by simp at h
  | _ :: _, [], _, _, h => by simp at h
theorem mir_cons (x : Int) (xs : List Int) : mir (x :: xs) = mir xs ++ [11 - x] := by simp [mir]
theorem mir_mvB (b : Int) : ∀ (cs : List Bool) (xs : List Int), cs.length = xs.length → mir (mvB b cs xs) = mvB (-b) cs.reverse (mir xs)
  | [], [], _ => rfl
  | c :: cs, x :: xs, h => by
    have hl : cs.length = xs.length := by simpa using h
    rw [mvB, mir_cons, mir_cons, List.reverse_cons, mvB_append _ _ _ _ _ (by simp [mir_length, hl]), mir_mvB b cs xs hl]
    congr 1
    cases c
    · simp [mvB]
    · simp [mvB]; omega
  | [], _ :: _, h => by simp at h
  | _ :: _, [], h => by simp at h
theorem mir_mv {n : Nat} {p : Int × Int} (hp : p ∈ allP n) {s : List Int} (hs : s.length = n) : ∃ q ∈ allP n, mir (mv p s) = mv q (mir s) := by
  obtain ⟨b, w⟩ := p
  rw [mem_allP] at hp
  obtain ⟨h0, h1, h2, h3, h4⟩ := hp
  simp only at h0 h1 h2 h3 h4
  generalize hN : 2 ^ n = N at h4
  have hw : w.toNat < 2 ^ n := by rw [hN]; omega
  have ht : true ∈ (bits n w.toNat).reverse := by rw [List.mem_reverse]; exact bits_true n _ (by omega) hw
  have hlt := unbits_lt (bits n w.toNat).reverse
  have hpos := unbits_pos _ ht
  have hb := bits_unbits (bits n w.toNat).reverse
  rw [List.length_reverse, bits_length] at hlt hb
  rw [hN] at hlt
  refine ⟨(-b, ((unbits (bits n w.toNat).reverse : Nat) : Int)), ?_, ?_⟩
  · rw [mem_allP, hN]
    simp only
    omega
  · simp only [mv, Int.toNat_natCast]
    rw [mvN_bits, mvN_bits, mir_mvB _ _ _ (by rw [bits_length]), mir_length, hs, hb]

/-! ### Ways to stand -/
def linkB (slack : Int) (a c : Int × Int) : Bool := decide (0 ≤ c.1 - a.1) && decide (c.1 - a.1 ≤ slack) && !(decide (c.1 - a.1 = 0) && decide (c.2 ≠ a.2))
def chainB (slack : Int) : List (Int × Int) → Bool
  | a :: c :: l => linkB slack a c && chainB slack (c :: l)
  | _ => true
def rangeB (l : List Int) : Bool := l.all fun x => decide (0 ≤ x) && decide (x < 12)
theorem okL_chain (slack : Int) : ∀ (a : Int × Int) (ts xs : List Int), xs.length = ts.length → okL slack (some a) ts xs = (rangeB xs && chainB slack (a :: xs.zip ts))
  | a, [], [], _ => by simp [okL, rangeB, chainB]
  | a, t :: ts, x :: xs, h => by
    have ih := okL_chain slack (x, t) ts xs (by simpa using h)
    simp only [okL, ih, List.zip_cons_cons, chainB, rangeB, List.all_cons, linkB]
    cases decide (0 ≤ x) <;> cases decide (x < 12) <;> cases (xs.all fun x => decide (0 ≤ x) && decide (x < 12)) <;> simp
  | _, [], _ :: _, h => by simp at h
  | _, _ :: _, [], h => by simp at h
theorem okL_eq (slack : Int) : ∀ (ts xs : List Int), xs.length = ts.length → okL slack none ts xs = (rangeB xs && chainB slack (xs.zip ts))
  | [], [], _ => by simp [okL, rangeB, chainB]
  | t :: ts, x :: xs, h => by
    have ih := okL_chain slack (x, t) ts xs (by simpa using h)
    simp only [okL, ih, List.zip_cons_cons, rangeB, List.all_cons]
    cases decide (0 ≤ x) <;> cases decide (x < 12) <;> simp
  | [], _ :: _, h => by simp at h
  | _ :: _, [], h => by simp at h
theorem chain_append (slack : Int) (c : Int × Int) : ∀ (l : List (Int × Int)) (a : Int × Int), chainB slack (l ++ [a, c]) = (chainB slack (l ++ [a]) && linkB slack a c)
  | [], a => by simp [chainB]
  | [b], a => by simp [chainB]
  | b :: d :: l, a => by
    have := chain_append slack c (d :: l) a
    simp only [List.cons_append, chainB] at this ⊢
    rw [this, Bool.and_assoc]
def mirP (a : Int × Int) : Int × Int := (11 - a.1, 11 - a.2)
theorem link_mir (slack : Int) (a c : Int × Int) : linkB slack (mirP c) (mirP a) = linkB slack a c := by
  unfold linkB mirP
  simp only
  rw [show 11 - a.1 - (11 - c.1) = c.1 - a.1 by omega]
  have : decide (11 - a.2 ≠ 11 - c.2) = decide (c.2 ≠ a.2) := decide_eq_decide.2 (by omega)
  rw [this]
theorem chain_mir (slack : Int) : ∀ (l : List (Int × Int)), chainB slack ((l.map mirP).reverse) = chainB slack l
  | [] => rfl
  | [a] => rfl
  | a :: c :: l => by
    have ih := chain_mir slack (c :: l)
    simp only [List.map_cons, List.reverse_cons, List.append_assoc, List.cons_append, List.nil_append] at ih ⊢
    rw [chain_append, ih, link_mir, chainB, Bool.and_comm]
theorem zip_mir : ∀ (xs ts : List Int), xs.length = ts.length → (mir xs).zip (mir ts) = ((xs.zip ts).map mirP).reverse
  | [], [], _ => rfl
  | x :: xs, t :: ts, h => by
    have hl : xs.length = ts.length := by simpa using h
    rw [mir_cons, mir_cons, List.zip_append (by simp [mir_length, hl]), zip_mir xs ts hl]
    simp [mirP]
  | [], _ :: _, h => by simp at h
  | _ :: _, [], h => by simp at h
theorem range_mir (xs : List Int) : rangeB (mir xs) = rangeB xs := by
  unfold rangeB mir
  rw [List.all_reverse, List.all_map]
  congr 1
  funext x
  simp only [Function.comp]
  by_cases h0 : 0 ≤ x <;> by_cases h1 : x < 12
  · rw [decide_eq_true h0, decide_eq_true h1, decide_eq_true (show 0 ≤ 11 - x by omega), decide_eq_true (show 11 - x < 12 by omega)]
  · rw [decide_eq_false h1, decide_eq_false (show ¬ 0 ≤ 11 - x by omega)]; simp
  · rw [decide_eq_false h0, decide_eq_false (show ¬ 11 - x < 12 by omega)]; simp
  · omega
theorem okL_mir {slack : Int} {tol s : List Int} (h : s.length = tol.length) : okL slack none (mir tol) (mir s) = okL slack none tol s := by
  rw [okL_eq _ _ _ (by rw [mir_length, mir_length]; exact h), okL_eq _ _ _ h, range_mir, zip_mir _ _ h, chain_mir]
theorem Ok.mir {tol : List Int} {slack : Int} {s : List Int} (h : Ok tol slack s) : Ok (mir tol) slack (mir s) := ⟨by rw [mir_length, mir_length]; exact h.1, by rw [okL_mir h.1]; exact h.2⟩

/-! ### How far -/
theorem Rch.len {tol : List Int} {slack : Int} : ∀ {k : Nat} {s : List Int}, Rch tol slack k s → s.length = tol.length
  | 0, s, h => by rw [show s = tol from h]
  | k + 1, s, ⟨p, _, ho, _⟩ => by rw [← mv_length p s]; exact ho.1
theorem Rch.mir {tol : List Int} {slack : Int} : ∀ {k : Nat} {s : List Int}, Rch tol slack k s → Rch (mir tol) slack k (mir s)
  | 0, s, h => by rw [show s = tol from h]; rfl
  | k + 1, s, h => by
    have hl := Rch.len h
    obtain ⟨p, hp, ho, hr⟩ := h
    obtain ⟨q, hq, e⟩ := mir_mv hp hl
    exact ⟨q, by rw [mir_length]; exact hq, by rw [← e]; exact ho.mir, by rw [← e]; exact Rch.mir hr⟩
theorem Rch.mir_iff {tol : List Int} {slack : Int} {k : Nat} {s : List Int} : Rch (X.mir tol) slack k (X.mir s) ↔ Rch tol slack k s :=
  ⟨fun h => by have := Rch.mir h; rwa [mir_mir, mir_mir] at this, Rch.mir⟩
theorem dist_mir {tol : List Int} {slack : Int} {s : List Int} {d : Nat} (h : dist tol slack s = some d) : dist (mir tol) slack (mir s) = some d := by
  obtain ⟨h1, h2⟩ := dist_some h
  obtain ⟨e, he, hle, hr⟩ := dist_le h1.mir
  have := h2 e (Rch.mir_iff.1 hr)
  rw [he]
  congr 1
  omega
theorem planS_length {tol : List Int} {slack : Int} : ∀ (k : Nat) (s : List Int), dist tol slack s = some k → (planS tol slack k s).length = k
  | 0, _, _ => rfl
  | k + 1, s, h => by
    obtain ⟨p, hp, hg⟩ := good_some h
    have hf : ((allP tol.length).find? (good tol slack k s)).isSome := List.find?_isSome.2 ⟨p, hp, hg⟩
    obtain ⟨x, hx⟩ := Option.isSome_iff_exists.1 hf
    have hgx := List.find?_some hx
    simp only [planS, hx, List.length_cons]
    rw [planS_length k (mv x s) (by simp only [good, Bool.and_eq_true, decide_eq_true_eq] at hgx; exact hgx.2)]

/-! ### What is wrong -/
theorem twins_append : ∀ (l : List Int) (a c : Int), twins (l ++ [a, c]) = (twins (l ++ [a]) || decide (c = a))
  | [], a, c => by simp [twins]
  | [b], a, c => by simp [twins, Bool.or_assoc]
  | b :: d :: l, a, c => by
    have := twins_append (d :: l) a c
    simp only [List.cons_append, twins] at this ⊢
    rw [this, Bool.or_assoc]
theorem twins_mir : ∀ (l : List Int), twins (mir l) = twins l
  | [] => rfl
  | [a] => by simp [mir, twins]
  | a :: c :: l => by
    have ih := twins_mir (c :: l)
    rw [mir_cons, mir_cons, List.append_assoc]
    rw [mir_cons] at ih
    simp only [List.cons_append, List.nil_append]
    rw [twins_append, ih, twins]
    have : decide (11 - a = 11 - c) = decide (c = a) := decide_eq_decide.2 (by omega)
    rw [this, Bool.or_comm]
theorem wrong_mir {src tol : List Int} {slack : Int} (h : wrongS src tol slack = 0) : wrongS (mir src) (mir tol) slack = 0 := by
  obtain ⟨h1, h2, h3, _⟩ := wrong_ok h
  unfold wrongS at h ⊢
  rw [mir_length, mir_length, twins_mir, okL_mir h3, okL_mir rfl]
  exact h
theorem plan_mir {src tol : List Int} {slack : Int} {l : List S43} (h : planR src tol slack = (l, 0)) : ∃ l', planR (mir src) (mir tol) slack = (l', 0) ∧ l'.length = l.length ∧ ∀ x ∈ src ++ tol, 0 ≤ x ∧ x < 12 := by
  unfold planR at h
  by_cases hw : wrongS src tol slack = 0
  · rw [if_neg (by simp [hw])] at h
    cases hd : dist tol slack src with
    | none => rw [hd] at h; simp at h
    | some d =>
      rw [hd] at h
      simp only [Prod.mk.injEq, and_true] at h
      subst h
      refine ⟨_, by unfold planR; rw [if_neg (by simp [wrong_mir hw]), dist_mir hd], ?_, ?_⟩
      · simp [planS_length d _ hd, planS_length d _ (dist_mir hd)]
      · obtain ⟨_, _, _, _, _, ho, ht⟩ := wrong_ok hw
        intro x hx
        rcases List.mem_append.1 hx with hx | hx
        · exact ho.range x hx
        · exact ht.range x hx
  · rw [if_pos hw] at h
    simp only [Prod.mk.injEq] at h
    exact absurd h.2 hw

/-! ### Alive -/
theorem one_rch : ∀ (k : Nat) (x : Int), Rch [5] 1 k [x] → 5 - x ≤ 2 * (k : Int)
  | 0, x, h => by
    have : ([x] : List Int) = [5] := h
    simp at this
    omega
  | k + 1, x, ⟨p, hp, _, hr⟩ => by
    obtain ⟨h0, h1, h2, h3, h4⟩ := (mem_allP _ p).1 hp
    obtain ⟨b, w⟩ := p
    simp only at h0 h1 h2 h3 h4
    have hw : w = 1 := by simp at h4; omega
    subst hw
    have hr' : Rch [5] 1 k [x + b] := hr
    have := one_rch k (x + b) hr'
    omega
theorem alive_dist : dist [5] 1 [0] = some 3 := by
  have h : Rch [5] 1 3 [0] := ⟨(2, 1), by decide, by decide, (2, 1), by decide, by decide, (1, 1), by decide, by decide, rfl⟩
  obtain ⟨d, hd, hle, hr⟩ := dist_le h
  have := one_rch d 0 hr
  rw [hd]
  congr 1
  omega
theorem alive_plan : ∃ l, planR [0] [5] 1 = (l, 0) ∧ l.length = 3 := by
  refine ⟨_, by unfold planR; rw [if_neg (by decide), alive_dist], ?_⟩
  simp [planS_length 3 _ alive_dist]
end Go.Proofs.Ytehchpjjcohecaa.X
