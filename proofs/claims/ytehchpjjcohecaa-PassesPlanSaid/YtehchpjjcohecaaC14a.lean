import Derived.Test.YtehchpjjcohecaaC27
import Derived.Test.YtehchpjjcohecaaMp
import Derived.OwnWalkIn
/- What lies in memory while passes.far searches. -/
namespace Go.Proofs.Ytehchpjjcohecaa.X
open Go.RowKit Go.Shelf Go.Proofs.YtehchpjjcohecaaW.PrintWords Go.Proofs.YtehchpjjcohecaaW.PrintLast Go.Proofs.YtehchpjjcohecaaW.PrintMore
set_option linter.unusedVariables false
set_option linter.unusedSimpArgs false

/-- The head of a slice. -/
abbrev SV := Option Addr × Nat × Nat
def encSV (x : SV) : Value := .slice x.1 x.2.1 x.2.2
def kSV : Kd SV := Kd.scalar encSV (fun _ => rfl)

/-- A slice of whole numbers that lies in blocks that nobody here writes: below B, or of whole numbers. -/
def Sees (B : Nat) (W : World) (x : SV) (l : List Int) : Prop :=
  x.2.1 = l.length ∧ l.length ≤ x.2.2 ∧ ∃ S : Nat → Prop, (∀ k, S k → k < W.heap.size ∧ (k < B ∨ ∃ cells, W.heap[k]? = some (.cells cells 3 (0, 0)))) ∧ ∀ W' : World, (∀ k, S k → W'.heap[k]? = W.heap[k]?) → Kd.C (Kd.int .i64) W' x.1 l.length l
theorem Sees.C {B : Nat} {W : World} {x : SV} {l : List Int} (h : Sees B W x l) : Kd.C (Kd.int .i64) W x.1 l.length l := by
  obtain ⟨_, _, S, _, h⟩ := h
  exact h W (fun _ _ => rfl)
theorem Sees.move {B : Nat} {W W1 : World} {x : SV} {l : List Int} (h : Sees B W x l) (hs : W.heap.size ≤ W1.heap.size) (hk : ∀ k, k < W.heap.size → (k < B ∨ ∃ cells t, W.heap[k]? = some (.cells cells t (0, 0)) ∧ t = 3) → W1.heap[k]? = W.heap[k]?) : Sees B W1 x l := by
  obtain ⟨h1, h2, S, hS, h3⟩ := h
  have he : ∀ k, S k → W1.heap[k]? = W.heap[k]? := fun k hk' => by
    obtain ⟨a, b⟩ := hS k hk'
    exact hk k a (b.imp id (fun ⟨c, hc⟩ => ⟨c, 3, hc, rfl⟩))
  refine ⟨h1, h2, S, fun k hk' => ?_, fun W' hW' => h3 W' (fun k hk' => (hW' k hk').trans (he k hk'))⟩
  obtain ⟨a, b⟩ := hS k hk'
  exact ⟨by omega, by rw [he k hk']; exact b⟩
theorem C_blocks {w W' : World} {A : Option Addr} {n : Nat} {l : List Int} (h : Kd.C (Kd.int .i64) w A n l) (hb : ∀ k, k < w.heap.size → W'.heap[k]? = w.heap[k]?) : Kd.C (Kd.int .i64) W' A n l := by
  obtain ⟨h1, h2, h3⟩ := h
  refine ⟨h1, h2, fun hn => ?_⟩
  obtain ⟨ad, e, hc⟩ := h3 hn
  refine ⟨ad, e, fun j p hp => ?_⟩
  obtain ⟨c, hl, hK, hcell⟩ := hc j p hp
  refine ⟨c, hl, hK, fun i u hu => ?_⟩
  have := hcell i u hu
  exact (World.cell?_of_block (hb _ (World.block_lt_of_cell? w _ this))).trans this
theorem Sees.ofC {w W : World} {A : Option Addr} {c : Nat} {l : List Int} (h : Kd.C (Kd.int .i64) w A l.length l) (hc : l.length ≤ c) (hB : Below w.heap.size w W) : Sees w.heap.size W (A, l.length, c) l :=
  ⟨rfl, hc, fun k => k < w.heap.size, fun k hk => ⟨Nat.lt_of_lt_of_le hk hB.size, .inl hk⟩, fun W' hW' => C_blocks h (fun k hk => (hW' k hk).trans (hB.block k hk))⟩
theorem Sees.ofR {W : World} {B base : Nat} {ok : Nat → Prop} {v : Value} {l : List Int} (h : Kd.R (Kd.int .i64) 3 W base ok v l) : ∃ x : SV, v = encSV x ∧ Sees B W x l := by
  obtain ⟨A, c, rfl, hl, hC⟩ := Kd.R_reads h
  refine ⟨(A, l.length, c), rfl, rfl, hl, fun k => (Value.slice A l.length c).ownBlock = some k, fun k hk => ⟨Kd.R_lt h k hk, .inr ?_⟩, fun W' hW' => ?_⟩
  · obtain ⟨cells, hc⟩ := Kd.R_typed h k hk
    exact ⟨cells, hc⟩
  · have h0 : Kd.R (Kd.int .i64) 3 W base (fun k => (Value.slice A l.length c).ownBlock = some k) (.slice A l.length c) l := ⟨fun k hk => hk, h.2.imp_ (fun _ _ hp => hp)⟩
    exact (Kd.R_reads' (Kd.R_move h0 hW')).2.2

theorem Sees.ofR' {W : World} {B base : Nat} {ok : Nat → Prop} {v : Value} {l : List Int} (h : Kd.R (Kd.int .i64) 3 W base ok v l) : ∃ A c, v = .slice A l.length c ∧ Sees B W (A, l.length, c) l := by
  obtain ⟨⟨A, n, c⟩, rfl, hs⟩ := Sees.ofR (B := B) h
  obtain rfl : n = l.length := hs.1
  exact ⟨A, c, rfl, hs⟩
/-- An append whose run is known, in a fence. -/
theorem wpListIn_append_run {F : Fence} {nF : Nat} {P : Program} {ops : Array Oper} {rest : List Oper} {o : Oper} {a : Act} {Q : Exit → Act → World → Prop} {w w1 : World} (hgd : o.guard = none) (s x : Operand) (t : TypeId)
    (ho : o.op = .call { callee := .builtin .append, args := #[s, x], argTypes := #[t, t] }) (v u v1 : Value) (hs : a.eval s = v) (hx : a.eval x = u) (hr : (Builtin.append_ #[t, t] o.type #[v, u]).run P w = .ok v1 w1)
    (h : wpListIn F nF P ops Q rest (a.put o.dst v1) w1) : wpListIn F nF P ops Q (o :: rest) a w := by
  refine wpListIn_plain hgd fun K hK => ?_
  unfold Oper.wpIn
  refine ⟨by simp [Oper.about, ho, resolve, Target.leads, Sem.run_pure], ?_⟩
  rw [Oper.semAt_plain F _ _ (by rw [ho]; intro c hc'; cases hc')]
  simp [execOp, ho, resolve, invoke, builtin, hs, hx, hr, Result.andThen]
  exact hK _ _ h

/-- What lies in memory: the puzzle's box, the map's, the queue's. av: a block that is none of the queue's. -/
def FarW (w : World) (g3 g4 : Nat) (av : Option Nat) (A0 : Option Addr) (c0 : Nat) (tol : List Int) (slack : Int) (f : Lit → Option Int) (cnt : Nat) (todo : List (List Int)) (W : World) : Prop :=
  Below w.heap.size w W ∧ W.heap[w.heap.size]? = some (.cells #[.slice A0 tol.length c0, .int .i64 slack] 35 (0, 0)) ∧ W.heap[g3]? = some (.cells #[.map (some (w.heap.size + 1))] 36 (0, 0)) ∧
  MapL Try.prog 3 3 W (w.heap.size + 1) cnt f ∧
  ∃ (v : Value) (hs : List SV), W.heap[g4]? = some (.cells #[v] 53 (0, 0)) ∧ Kd.Q kSV 22 W w.heap.size (fun k => some k ≠ av) v hs ∧ hs.length = todo.length ∧ ∀ (i : Nat) (x : SV) (l : List Int), hs[i]? = some x → todo[i]? = some l → Sees w.heap.size W x l
section
variable {w : World} {g3 g4 : Nat} {av : Option Nat} {A0 : Option Addr} {c0 : Nat} {tol : List Int} {slack : Int} {f : Lit → Option Int} {cnt : Nat} {todo : List (List Int)} {W W1 : World}
/-- All that is cells, and the map, lies as it lay. -/
theorem FarW.move (h : FarW w g3 g4 av A0 c0 tol slack f cnt todo W) (hB : Below w.heap.size w W1) (hs : W.heap.size ≤ W1.heap.size)
    (hk : ∀ k, k < W.heap.size → (k < w.heap.size ∨ ∃ cells t, W.heap[k]? = some (.cells cells t (0, 0))) → W1.heap[k]? = W.heap[k]?) (hm : W1.heap[w.heap.size + 1]? = W.heap[w.heap.size + 1]?) : FarW w g3 g4 av A0 c0 tol slack f cnt todo W1 := by
  obtain ⟨h1, h2, h3, h4, v, hs', h5, h6, h7, h8⟩ := h
  have lt : ∀ {k : Nat} {o : Obj}, W.heap[k]? = some o → k < W.heap.size := fun e => (Array.getElem?_eq_some_iff.1 e).1
  refine ⟨hB, (hk _ (lt h2) (.inr ⟨_, _, h2⟩)).trans h2, (hk _ (lt h3) (.inr ⟨_, _, h3⟩)).trans h3, h4.same hm, v, hs', (hk _ (lt h5) (.inr ⟨_, _, h5⟩)).trans h5, ?_, h7, fun i x l a b => (h8 i x l a b).move hs (fun k hk1 hk2 => hk k hk1 (hk2.imp id (fun ⟨c, t, e, _⟩ => ⟨c, t, e⟩)))⟩
  have h9 := Kd.Q_bound h6
  refine Kd.Q_mono (Kd.Q_move h9 (fun k hk' => ?_)) (fun k hk' => hk'.1)
  obtain ⟨_, _, a, q, _, cells, e⟩ := hk'
  exact hk k a (.inr ⟨_, _, e⟩)
theorem FarW.below (h : FarW w g3 g4 av A0 c0 tol slack f cnt todo W) (hb : Below W.heap.size W W1) : FarW w g3 g4 av A0 c0 tol slack f cnt todo W1 :=
  h.move (h.1.trans (hb.mono h.1.size)) hb.size (fun k hk _ => hb.block k hk) (hb.block _ h.2.2.2.1.lt)
theorem FarW.noncells (h : FarW w g3 g4 av A0 c0 tol slack f cnt todo W) {row : Option Nat} {B' : Nat} (hg : W.grownBy W1 row) (hB' : w.heap.size + 1 < B') (hr : ∀ r, row = some r → B' ≤ r ∧ ∃ o : Obj, W.heap[r]? = some o ∧ o.isCells = false) : FarW w g3 g4 av A0 c0 tol slack f cnt todo W1 := by
  refine h.move (h.1.grown hg h.1.size (fun k e => by have := (hr k e).1; omega)) hg.size (fun k hk hk2 => hg.block k hk (fun e => ?_)) (hg.block _ h.2.2.2.1.lt (fun e => by have := (hr _ e.symm).1; omega))
  obtain ⟨h1, o, ho, hc⟩ := hr k e.symm
  rcases hk2 with hk2 | ⟨c, t, e2⟩
  · omega
  · rw [e2] at ho
    cases ho
    cases hc
/-- A cell is written that is none of these. -/
theorem FarW.other (h : FarW w g3 g4 av A0 c0 tol slack f cnt todo W) {p : Addr} {cells : Array Value} {t : Nat} (hp : W.heap[p.block]? = some (.cells cells t (0, 0))) (h0 : w.heap.size < p.block) (hn3 : p.block ≠ g3) (hn4 : p.block ≠ g4) (ht : t ≠ 22) (ht3 : t ≠ 3) (u : Value) : FarW w g3 g4 av A0 c0 tol slack f cnt todo (W.setCell p u) := by
  obtain ⟨h1, h2, h3, h4, v, hs', h5, h6, h7, h8⟩ := h
  have ho : ∀ k, k ≠ p.block → (W.setCell p u).heap[k]? = W.heap[k]? := fun k hk => Below.heap_setCell W p u k hk
  have hM : w.heap.size + 1 ≠ p.block := by
    obtain ⟨es, ck, e⟩ := h4.block
    intro e2
    rw [← e2, e] at hp
    cases hp
  have hsz : (W.setCell p u).heap.size = W.heap.size := by simp
  refine ⟨h1.setCell (Nat.le_of_lt h0) _, (ho _ (by omega)).trans h2, (ho _ (fun e => hn3 e.symm)).trans h3, h4.same (ho _ hM), v, hs', (ho _ (fun e => hn4 e.symm)).trans h5, ?_, h7, fun i x l a b => (h8 i x l a b).move (by omega) (fun k hk1 hk2 => ho k (fun e => ?_))⟩
  · have h9 := Kd.Q_bound h6
    refine Kd.Q_mono (Kd.Q_move h9 (fun k hk' => ho k (fun e => ?_))) (fun k hk' => hk'.1)
    obtain ⟨_, _, a, q, hq, cells', e2⟩ := hk'
    subst e
    rw [hp] at e2
    cases e2
    simp [kSV, Kd.scalar] at hq
    exact ht hq
  · subst e
    rcases hk2 with hk2 | ⟨c, t', e2, e3⟩
    · omega
    · rw [hp] at e2
      cases e2
      exact ht3 e3
end
section
variable {w : World} {g3 g4 : Nat} {av : Option Nat} {A0 : Option Addr} {c0 : Nat} {tol : List Int} {slack : Int} {f : Lit → Option Int} {cnt : Nat} {todo todo' : List (List Int)} {W W1 : World}
/-- The queue is another one. -/
theorem FarW.queue' {v : Value} (h1 : Below w.heap.size w W) (h2 : W.heap[w.heap.size]? = some (.cells #[.slice A0 tol.length c0, .int .i64 slack] 35 (0, 0))) (h3 : W.heap[g3]? = some (.cells #[.map (some (w.heap.size + 1))] 36 (0, 0))) (h4 : MapL Try.prog 3 3 W (w.heap.size + 1) cnt f)
    (h5 : W.heap[g4]? = some (.cells #[v] 53 (0, 0))) (h0 : w.heap.size < g4) (h34 : g3 ≠ g4) {v' : Value} {hs' : List SV} (hQ : Kd.Q kSV 22 W w.heap.size (fun k => some k ≠ av) v' hs') (hl : hs'.length = todo'.length)
    (hS : ∀ (i : Nat) (x : SV) (l : List Int), hs'[i]? = some x → todo'[i]? = some l → Sees w.heap.size W x l) : FarW w g3 g4 av A0 c0 tol slack f cnt todo' (W.setCell ⟨g4, 0, none⟩ v') := by
  have ho : ∀ k, k ≠ g4 → (W.setCell ⟨g4, 0, none⟩ v').heap[k]? = W.heap[k]? := fun k hk => Below.heap_setCell W ⟨g4, 0, none⟩ v' k hk
  have hM : w.heap.size + 1 ≠ g4 := by
    obtain ⟨es, ck, e⟩ := h4.block
    intro e2
    rw [← e2, e] at h5
    cases h5
  refine ⟨h1.setCell (p := ⟨g4, 0, none⟩) (Nat.le_of_lt h0) _, (ho _ (by omega)).trans h2, (ho _ h34).trans h3, h4.same (ho _ hM), v', hs', ?_, ?_, hl, fun i x l a b => (hS i x l a b).move (by simp) (fun k hk1 hk2 => ho k (fun e => ?_))⟩
  · exact blk_put (cs := #[v]) h5 0 _ rfl
  · have h9 := Kd.Q_bound hQ
    refine Kd.Q_mono (Kd.Q_move h9 (fun k hk' => ho k (fun e => ?_))) (fun k hk' => hk'.1)
    obtain ⟨_, _, a, q, hq, cells', e2⟩ := hk'
    subst e
    rw [h5] at e2
    cases e2
    simp [kSV, Kd.scalar] at hq
  · subst e
    rcases hk2 with hk2 | ⟨c, t', e2, e3⟩
    · omega
    · rw [h5] at e2
      cases e2
      cases e3
theorem FarW.queue (h : FarW w g3 g4 av A0 c0 tol slack f cnt todo W) (h0 : w.heap.size < g4) (h34 : g3 ≠ g4) {v' : Value} {hs' : List SV} (hQ : Kd.Q kSV 22 W w.heap.size (fun k => some k ≠ av) v' hs') (hl : hs'.length = todo'.length)
    (hS : ∀ (i : Nat) (x : SV) (l : List Int), hs'[i]? = some x → todo'[i]? = some l → Sees w.heap.size W x l) : FarW w g3 g4 av A0 c0 tol slack f cnt todo' (W.setCell ⟨g4, 0, none⟩ v') := by
  obtain ⟨h1, h2, h3, h4, v, hs, h5, h6, h7, h8⟩ := h
  exact FarW.queue' h1 h2 h3 h4 h5 h0 h34 hQ hl hS
theorem FarW.away (h : FarW w g3 g4 none A0 c0 tol slack f cnt todo W) {g : Nat} (hg : W.heap.size ≤ g) : FarW w g3 g4 (some g) A0 c0 tol slack f cnt todo W := by
  obtain ⟨h1, h2, h3, h4, v, hs, h5, h6, h7, h8⟩ := h
  exact ⟨h1, h2, h3, h4, v, hs, h5, Kd.Q_mono (Kd.Q_bound h6) (fun k hk e => by cases e; have := hk.2.2.1; omega), h7, h8⟩
theorem FarW.any (h : FarW w g3 g4 av A0 c0 tol slack f cnt todo W) : FarW w g3 g4 none A0 c0 tol slack f cnt todo W := by
  obtain ⟨h1, h2, h3, h4, v, hs, h5, h6, h7, h8⟩ := h
  exact ⟨h1, h2, h3, h4, v, hs, h5, Kd.Q_mono h6 (fun k hk => by simp), h7, h8⟩
end
section
variable {w : World} {g3 g4 : Nat} {av : Option Nat} {A0 : Option Addr} {c0 : Nat} {tol : List Int} {slack : Int} {f f1 : Lit → Option Int} {cnt cnt1 : Nat} {todo todo' : List (List Int)} {W W1 : World}
theorem cells_ne {k : Nat} {cells : Array Value} {t : Nat} (h : W.heap[k]? = some (.cells cells t (0, 0))) {M : Nat} (hM : ∃ es ck, W.heap[M]? = some (.map es ck)) : k ≠ M := by
  rintro rfl
  obtain ⟨es, ck, e⟩ := hM
  rw [h] at e
  cases e
/-- The map is another one. -/
theorem FarW.map (h : FarW w g3 g4 av A0 c0 tol slack f cnt todo W) (hg : W.grownBy W1 (some (w.heap.size + 1))) (hm : MapL Try.prog 3 3 W1 (w.heap.size + 1) cnt1 f1) : FarW w g3 g4 av A0 c0 tol slack f1 cnt1 todo W1 := by
  obtain ⟨h1, h2, h3, h4, v, hs', h5, h6, h7, h8⟩ := h
  have hM := h4.block
  have hk : ∀ {k : Nat} {cells : Array Value} {t : Nat}, W.heap[k]? = some (.cells cells t (0, 0)) → W1.heap[k]? = W.heap[k]? := fun {k cells t} e => hg.block k (Array.getElem?_eq_some_iff.1 e).1 (fun e2 => cells_ne e hM (by cases e2; rfl))
  refine ⟨h1.grown hg h1.size (fun k e => by cases e; omega), (hk h2).trans h2, (hk h3).trans h3, hm, v, hs', (hk h5).trans h5, ?_, h7, fun i x l a b => (h8 i x l a b).move hg.size (fun k hk1 hk2 => ?_)⟩
  · have h9 := Kd.Q_bound h6
    refine Kd.Q_mono (Kd.Q_move h9 (fun k hk' => ?_)) (fun k hk' => hk'.1)
    obtain ⟨_, _, a, q, _, cells, e⟩ := hk'
    exact hk e
  · rcases hk2 with hk2 | ⟨c, t, e, _⟩
    · exact hg.block k hk1 (fun e2 => by cases e2; omega)
    · exact hk e
/-- One more in the queue. -/
theorem FarW.push (h : FarW w g3 g4 av A0 c0 tol slack f cnt todo W) (h0 : w.heap.size < g4) (h34 : g3 ≠ g4) {v v1 : Value} {hs : List SV} {x : SV} {l : List Int} (hS : Sees w.heap.size W x l) (h5 : W.heap[g4]? = some (.cells #[v] 53 (0, 0)))
    (hQ : Kd.Q kSV 22 W w.heap.size (fun k => some k ≠ av) v hs) (hl : hs.length = todo.length) (hsee : ∀ (i : Nat) (x : SV) (l : List Int), hs[i]? = some x → todo[i]? = some l → Sees w.heap.size W x l)
    (hQ1 : Kd.Q kSV 22 W1 w.heap.size (fun k => some k ≠ av) v1 (hs ++ [x])) (hg : W.grownBy W1 v.ownBlock) : FarW w g3 g4 av A0 c0 tol slack f cnt (todo ++ [l]) (W1.setCell ⟨g4, 0, none⟩ v1) := by
  have hty := Kd.Q_typed hQ
  have hba := Kd.Q_base hQ
  obtain ⟨h1, h2, h3, h4, _, _, _, _, _, _⟩ := h
  have hk : ∀ {k : Nat} {cells : Array Value} {t : Nat}, W.heap[k]? = some (.cells cells t (0, 0)) → t ≠ 22 → W1.heap[k]? = W.heap[k]? := fun {k cells t} e ht => hg.block k (Array.getElem?_eq_some_iff.1 e).1 (fun e2 => by
    obtain ⟨c, e3⟩ := hty k e2.symm
    rw [e] at e3
    cases e3
    exact ht rfl)
  have hM1 : W1.heap[w.heap.size + 1]? = W.heap[w.heap.size + 1]? := hg.block _ h4.lt (fun e2 => by
    obtain ⟨c, e3⟩ := hty _ e2.symm
    obtain ⟨es, ck, e4⟩ := h4.block
    rw [e3] at e4
    cases e4)
  have hsees : ∀ {x : SV} {l : List Int}, Sees w.heap.size W x l → Sees w.heap.size W1 x l := fun hx => hx.move hg.size (fun k hk1 hk2 => by
    rcases hk2 with hk2 | ⟨c, t, e, rfl⟩
    · exact hg.block k hk1 (fun e2 => by have := hba k e2.symm; omega)
    · exact hk e (by decide))
  have h51 := (hk h5 (by decide)).trans h5
  refine FarW.queue' (h1.grown hg h1.size (fun k e => hba k e)) ((hk h2 (by decide)).trans h2) ((hk h3 (by decide)).trans h3) (h4.same hM1) h51 h0 h34 hQ1 (by simp [hl]) ?_
  intro i x' l' a b
  rcases Nat.lt_or_ge i hs.length with hi | hi
  · rw [List.getElem?_append_left hi] at a
    rw [List.getElem?_append_left (by omega)] at b
    exact hsees (hsee i x' l' a b)
  · rw [List.getElem?_append_right hi] at a
    rw [List.getElem?_append_right (by omega), ← hl] at b
    cases e : i - hs.length with
    | zero =>
      rw [e] at a b
      simp at a b
      subst a b
      exact hsees hS
    | succ j =>
      rw [e] at a
      simp at a
end
theorem size22 : (sizeOf 22).run Try.prog = fun w => .ok 1 w := by funext w; kernel_rfl
/-- 'q[1:]' of a queue of slices: one value for both ways. -/
theorem queue_pop {W : World} {B : Nat} {ok : Nat → Prop} {A : Option Addr} {c : Nat} {x0 : SV} {hs : List SV} (h : Kd.Q kSV 22 W B ok (.slice A (hs.length + 1) c) (x0 :: hs)) :
    ∃ v', Kd.Q kSV 22 W B ok v' hs ∧ (∀ w', (Instr.slice 53 (.slice A (hs.length + 1) c) (some (.int .i64 1)) none none).run Try.prog w' = .ok v' w') ∧ ∃ A' c', v' = .slice A' hs.length c' := by
  have h1 := Kd.Q_drop (k := 1) h (by simp)
  refine ⟨_, h1, fun w' => ?_, _, _, rfl⟩
  simp [Instr.slice, Sem.run_bind, Instr.sliceBounds, Instr.sliceBound, run_underlying Try.underlying53, asIntOf, size22, Result.andThen, kSV, Kd.scalar, Sem.run_pure]
  rw [if_pos (by omega)]
  rfl
end Go.Proofs.Ytehchpjjcohecaa.X
