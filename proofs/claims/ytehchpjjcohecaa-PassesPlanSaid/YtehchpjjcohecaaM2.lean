import Derived.Test.YtehchpjjcohecaaM
/- The search in breadth: what holds between its rounds. -/
namespace Go.Proofs.Ytehchpjjcohecaa.X
set_option linter.unusedVariables false

structure Bfs0 (tol : List Int) (slack : Int) (g : List Int → Option Nat) (seen todo : List (List Int)) : Prop where
  nodup : seen.Nodup
  ok : ∀ s ∈ seen, Ok tol slack s
  dom : ∀ s, (g s).isSome = true ↔ s ∈ seen
  bound : ∀ s d, g s = some d → d < seen.length
  sound : ∀ s d, g s = some d → Rch tol slack d s
  start : g tol = some 0
  sub : ∀ s ∈ todo, s ∈ seen
  sorted : todo.Pairwise (fun a b => ∀ d e, g a = some d → g b = some e → d ≤ e)
structure Bfs (tol : List Int) (slack : Int) (g : List Int → Option Nat) (seen todo : List (List Int)) : Prop extends Bfs0 tol slack g seen todo where
  done : ∀ s, s ∈ seen → s ∉ todo → ∀ p ∈ allP tol.length, Ok tol slack (mv p s) → ∃ d e, g s = some d ∧ g (mv p s) = some e ∧ e ≤ d + 1
  top : ∀ h t, todo = h :: t → ∀ d, g h = some d → ∀ s e, g s = some e → e ≤ d + 1
structure Rnd (tol : List Int) (slack : Int) (g : List Int → Option Nat) (seen todo : List (List Int)) (at_ : List Int) (d : Nat) (pre : List (Int × Int)) : Prop extends Bfs0 tol slack g seen todo where
  here : g at_ = some d
  done : ∀ s, s ∈ seen → s ∉ todo → s ≠ at_ → ∀ p ∈ allP tol.length, Ok tol slack (mv p s) → ∃ d e, g s = some d ∧ g (mv p s) = some e ∧ e ≤ d + 1
  part : ∀ x ∈ pre, Ok tol slack (mv (neg x) at_) → ∃ e, g (mv (neg x) at_) = some e ∧ e ≤ d + 1
  low : ∀ s ∈ todo, ∀ e, g s = some e → d ≤ e
  top : ∀ s e, g s = some e → e ≤ d + 1

variable {tol : List Int} {slack : Int} {g : List Int → Option Nat} {seen todo : List (List Int)} {at_ : List Int} {d : Nat} {pre : List (Int × Int)}

theorem Bfs.begin (tol : List Int) (slack : Int) (h : Ok tol slack tol) : Bfs tol slack (fun s => if s = tol then some 0 else none) [tol] [tol] where
  nodup := by simp
  ok := fun s hs => by simp at hs; subst hs; exact h
  dom := fun s => by by_cases e : s = tol <;> simp [e]
  bound := fun s d hd => by by_cases e : s = tol <;> simp [e] at hd; subst hd; simp
  sound := fun s d hd => by by_cases e : s = tol <;> simp [e] at hd; subst hd; exact e
  start := by simp
  sub := fun s hs => hs
  sorted := by simp
  done := fun s hs hn => absurd hs hn
  top := fun a t e d hd s e' he' => by
    by_cases e2 : s = tol <;> simp [e2] at he'
    omega

theorem Bfs.pop {rest : List (List Int)} (h : Bfs tol slack g seen (at_ :: rest)) : ∃ d, Rnd tol slack g seen rest at_ d [] := by
  have hm := h.sub at_ List.mem_cons_self
  obtain ⟨d, hd⟩ := Option.isSome_iff_exists.1 ((h.dom at_).2 hm)
  refine ⟨d, ?_⟩
  exact {
    nodup := h.nodup
    ok := h.ok
    dom := h.dom
    bound := h.bound
    sound := h.sound
    start := h.start
    sub := fun s hs => h.sub s (List.mem_cons_of_mem _ hs)
    sorted := (List.pairwise_cons.1 h.sorted).2
    here := hd
    done := fun s hs hn hne => h.done s hs (by simp [hne, hn])
    part := fun x hx => by cases hx
    low := fun s hs e he => (List.pairwise_cons.1 h.sorted).1 s hs d e hd he
    top := h.top at_ rest rfl d hd }

theorem Rnd.done_ (h : Rnd tol slack g seen todo at_ d (allP tol.length)) : Bfs tol slack g seen todo where
  nodup := h.nodup
  ok := h.ok
  dom := h.dom
  bound := h.bound
  sound := h.sound
  start := h.start
  sub := h.sub
  sorted := h.sorted
  done := fun s hs hn p hp ho => by
    by_cases e : s = at_
    · subst e
      obtain ⟨e, he, hle⟩ := h.part (neg p) (neg_mem _ p hp) (by rwa [neg_neg])
      rw [neg_neg] at he
      exact ⟨d, e, h.here, he, hle⟩
    · exact h.done s hs hn e p hp ho
  top := fun a t e d' hd' s e' he' => by
    have h1 := h.top s e' he'
    have h2 := h.low a (by rw [e]; exact List.mem_cons_self) d' hd'
    omega

/-- A pass that leads to no way to stand. -/
theorem Rnd.skip (h : Rnd tol slack g seen todo at_ d pre) (x : Int × Int) (hx : ¬ Ok tol slack (mv (neg x) at_)) : Rnd tol slack g seen todo at_ d (pre ++ [x]) := by
  have hpart : ∀ y ∈ pre ++ [x], Ok tol slack (mv (neg y) at_) → ∃ e, g (mv (neg y) at_) = some e ∧ e ≤ d + 1 := fun y hy ho => by
      rcases List.mem_append.1 hy with hy | hy
      · exact h.part y hy ho
      · simp at hy; subst hy; exact absurd ho hx
  exact { h with part := hpart }
/-- A pass that leads to where one has been. -/
theorem Rnd.old (h : Rnd tol slack g seen todo at_ d pre) (x : Int × Int) (hx : (g (mv (neg x) at_)).isSome = true) : Rnd tol slack g seen todo at_ d (pre ++ [x]) := by
  have hpart : ∀ y ∈ pre ++ [x], Ok tol slack (mv (neg y) at_) → ∃ e, g (mv (neg y) at_) = some e ∧ e ≤ d + 1 := fun y hy ho => by
      rcases List.mem_append.1 hy with hy | hy
      · exact h.part y hy ho
      · simp at hy; subst hy
        obtain ⟨e, he⟩ := Option.isSome_iff_exists.1 hx
        exact ⟨e, he, h.top _ e he⟩
  exact { h with part := hpart }
/-- A pass that leads to a new one. -/
theorem Rnd.new (h : Rnd tol slack g seen todo at_ d pre) (x : Int × Int) (hp : x ∈ allP tol.length) (ho : Ok tol slack (mv (neg x) at_)) (hx : (g (mv (neg x) at_)).isSome = false) :
    Rnd tol slack (fun s => if s = mv (neg x) at_ then some (d + 1) else g s) (seen ++ [mv (neg x) at_]) (todo ++ [mv (neg x) at_]) at_ d (pre ++ [x]) := by
  obtain ⟨b, hb⟩ : ∃ b, mv (neg x) at_ = b := ⟨_, rfl⟩
  have hback : mv x b = at_ := by rw [← hb]; exact mv_neg x at_
  rw [hb] at ho hx ⊢
  have hgb : g b = none := by simpa using hx
  have hns : b ∉ seen := fun hm => by have := (h.dom b).2 hm; rw [hgb] at this; cases this
  have hat : at_ ∈ seen := (h.dom at_).1 (by rw [h.here]; rfl)
  have hne : at_ ≠ b := fun e => hns (e ▸ hat)
  have hold : ∀ s, s ≠ b → (if s = b then some (d + 1) else g s) = g s := fun s hs => if_neg hs
  have hsne : ∀ s ∈ seen, s ≠ b := fun s hs e => hns (e ▸ hs)
  have htol : tol ≠ b := hsne tol ((h.dom tol).1 (by rw [h.start]; rfl))
  refine { nodup := ?_, ok := ?_, dom := ?_, bound := ?_, sound := ?_, start := ?_, sub := ?_, sorted := ?_, here := ?_, done := ?_, part := ?_, low := ?_, top := ?_ }
  · rw [List.nodup_append]
    exact ⟨h.nodup, by simp, fun a ha c hc => by simp at hc; subst hc; exact hsne a ha⟩
  · intro s hs
    rcases List.mem_append.1 hs with hs | hs
    · exact h.ok s hs
    · simp at hs; subst hs; exact ho
  · intro s
    by_cases e : s = b
    · simp [e]
    · rw [hold s e, h.dom s]; simp [e]
  · intro s e he
    rw [List.length_append]
    by_cases e2 : s = b
    · simp [e2] at he
      have := h.bound at_ d h.here
      simp
      omega
    · rw [hold s e2] at he
      have := h.bound s e he
      omega
  · intro s e he
    by_cases e2 : s = b
    · subst e2
      simp at he
      subst he
      exact ⟨x, hp, by rw [hback]; exact h.ok at_ hat, by rw [hback]; exact h.sound at_ d h.here⟩
    · rw [hold s e2] at he
      exact h.sound s e he
  · rw [hold tol htol]; exact h.start
  · intro s hs
    rcases List.mem_append.1 hs with hs | hs
    · exact List.mem_append_left _ (h.sub s hs)
    · exact List.mem_append_right _ hs
  · rw [List.pairwise_append]
    refine ⟨h.sorted.imp_of_mem ?_, by simp, ?_⟩
    · intro a c ha hc hac
      rw [hold a (hsne a (h.sub a ha)), hold c (hsne c (h.sub c hc))]
      exact hac
    · intro a ha c hc d1 e1 h1 h2
      simp at hc
      subst hc
      rw [hold a (hsne a (h.sub a ha))] at h1
      simp at h2
      have := h.top a d1 h1
      omega
  · rw [hold at_ hne]; exact h.here
  · intro s hs hn hsa p hp2 hok
    have hsb : s ≠ b := fun e => hn (by rw [e]; simp)
    have hs' : s ∈ seen := by
      rcases List.mem_append.1 hs with hs | hs
      · exact hs
      · simp at hs; exact absurd hs hsb
    obtain ⟨d1, e1, h1, h2, h3⟩ := h.done s hs' (fun hm => hn (List.mem_append_left _ hm)) hsa p hp2 hok
    have hpb : mv p s ≠ b := fun e => by rw [e, hgb] at h2; cases h2
    exact ⟨d1, e1, by rw [hold s hsb]; exact h1, by rw [hold _ hpb]; exact h2, h3⟩
  · intro y hy hok
    rcases List.mem_append.1 hy with hy | hy
    · obtain ⟨e1, h1, h2⟩ := h.part y hy hok
      have hyb : mv (neg y) at_ ≠ b := fun e => by rw [e, hgb] at h1; cases h1
      exact ⟨e1, by rw [hold _ hyb]; exact h1, h2⟩
    · simp at hy
      subst hy
      exact ⟨d + 1, by rw [hb]; simp, Nat.le_refl _⟩
  · intro s hs e he
    rcases List.mem_append.1 hs with hs | hs
    · rw [hold s (hsne s (h.sub s hs))] at he
      exact h.low s hs e he
    · simp at hs
      simp [hs] at he
      omega
  · intro s e he
    by_cases e2 : s = b
    · simp [e2] at he; omega
    · rw [hold s e2] at he
      exact h.top s e he

/-- Nothing is left: all is found, as near as it is. -/
theorem Bfs.dist (h : Bfs tol slack g seen []) (s : List Int) (ho : Ok tol slack s) : g s = X.dist tol slack s := by
  have key : ∀ k s, Ok tol slack s → Rch tol slack k s → ∃ d, g s = some d ∧ d ≤ k := by
    intro k
    induction k with
    | zero =>
      intro s _ hr
      have : s = tol := hr
      subst this
      exact ⟨0, h.start, Nat.le_refl _⟩
    | succ k ih =>
      rintro s hs ⟨p, hp, ho, hr⟩
      obtain ⟨d, hd, hle⟩ := ih _ ho hr
      obtain ⟨d1, e1, h1, h2, h3⟩ := h.done (mv p s) ((h.dom _).1 (by rw [hd]; rfl)) (by simp) (neg p) (neg_mem _ p hp) (by rw [neg_mv]; exact hs)
      rw [neg_mv] at h2
      rw [hd] at h1
      cases h1
      exact ⟨e1, h2, by omega⟩
  cases e : X.dist tol slack s with
  | none =>
    cases e2 : g s with
    | none => rfl
    | some d => exact absurd (h.sound s d e2) (dist_none e d)
  | some d =>
    obtain ⟨h1, h2⟩ := dist_some e
    obtain ⟨d', hd', hle⟩ := key d s ho h1
    have := h2 d' (h.sound s d' hd')
    rw [hd']
    congr 1
    omega
end Go.Proofs.Ytehchpjjcohecaa.X
