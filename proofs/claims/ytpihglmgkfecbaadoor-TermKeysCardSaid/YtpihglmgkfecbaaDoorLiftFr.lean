/-
  What may change: 'Chg F': all blocks but those of F are as they were. 'G': the blocks that some structure may change; what never changes lies outside of G.
-/
import Derived.Test.YtpihglmgkfecbaaDoorLiftMem
import Derived.Maps.AppendAt
namespace Go.Lf
open Go Go.RowKit Go.ChangeShapes

structure Chg (F : Nat → Prop) (w w' : World) : Prop where
  os : w'.os = w.os
  tape : w'.tape = w.tape
  output : w'.output = w.output
  size : w.heap.size ≤ w'.heap.size
  block : ∀ k, k < w.heap.size → ¬ F k → w'.heap[k]? = w.heap[k]?

theorem Chg.refl (F : Nat → Prop) (w : World) : Chg F w w := ⟨rfl, rfl, rfl, Nat.le_refl _, fun _ _ _ => rfl⟩

theorem Chg.trans {F F' : Nat → Prop} {a b c : World} (h : Chg F a b) (k : Chg F' b c) (hF : ∀ i, F' i → F i ∨ a.heap.size ≤ i) : Chg F a c :=
  ⟨k.os.trans h.os, k.tape.trans h.tape, k.output.trans h.output, Nat.le_trans h.size k.size,
    fun i hi hn => (k.block i (Nat.lt_of_lt_of_le hi h.size) fun hf => (hF i hf).elim hn (Nat.not_le.2 hi)).trans (h.block i hi hn)⟩

theorem Chg.mono {F F' : Nat → Prop} {w w' : World} (h : Chg F w w') (hF : ∀ i, i < w.heap.size → F i → F' i) : Chg F' w w' :=
  ⟨h.os, h.tape, h.output, h.size, fun i hi hn => h.block i hi fun hf => hn (hF i hi hf)⟩

theorem Chg.below {B : Nat} {F : Nat → Prop} {w w' : World} (h : Chg F w w') (hF : ∀ i, F i → B ≤ i) (hB : B ≤ w.heap.size) : Below B w w' :=
  ⟨h.os, h.tape, h.output, h.size, fun i hi => h.block i (by omega) fun hf => by have := hF i hf; omega⟩

theorem Chg.of_below {F : Nat → Prop} {w w' : World} (h : Below w.heap.size w w') : Chg F w w' := ⟨h.os, h.tape, h.output, h.size, fun i hi _ => h.block i hi⟩

theorem Chg.of_grown {F : Nat → Prop} {w w' : World} {row : Option Nat} (h : w.grownBy w' row) (hr : ∀ k, row = some k → F k) : Chg F w w' :=
  ⟨h.os, h.tape, h.output, h.size, fun i hi hn => h.block i hi fun he => hn (hr i he.symm)⟩

theorem Chg.alloc {F : Nat → Prop} (w : World) (o : Obj) : Chg F w (w.alloc o) := .of_below (below_alloc w o)
theorem Chg.drew {F : Nat → Prop} (w : World) : Chg F w w.drew := .of_below below_drew
theorem Chg.setCell {F : Nat → Prop} (w : World) {p : Addr} (v : Value) (hp : F p.block) : Chg F w (w.setCell p v) :=
  ⟨rfl, rfl, rfl, by simp [World.setCell], fun k _ hn => Below.heap_setCell _ _ _ _ fun he => hn (he ▸ hp)⟩
theorem Chg.setCells {F : Nat → Prop} {p : Addr} (hp : F p.block) : ∀ (vs : List Value) (i : Nat) (w : World), Chg F w (setCells p vs i w)
  | [], _, w => Chg.refl _ _
  | v :: r, i, w => (Chg.setCell w v (by rw [add_block]; exact hp)).trans (Chg.setCells hp r (i + 1) _) fun _ h => .inl h

theorem Chg.cell {F : Nat → Prop} {w w' : World} (h : Chg F w w') {p : Addr} (hp : p.block < w.heap.size) (hn : ¬ F p.block) : w'.cell? p = w.cell? p := World.cell?_of_block (w := w) (h.block _ hp hn)
theorem Chg.cellv {F : Nat → Prop} {w w' : World} (h : Chg F w w') {p : Addr} {v : Value} (hc : w.cell? p = some v) (hn : ¬ F p.block) : w'.cell? p = some v := by
  rw [h.cell (World.block_lt_of_cell? w p hc) hn]; exact hc
theorem Chg.frozen {F : Nat → Prop} {w w' : World} (h : Chg F w w') {p : Addr} (hp : p.block < w.heap.size) (hn : ¬ F p.block) : w'.frozen? p = w.frozen? p := World.frozen?_of_block (w := w) (h.block _ hp hn)
theorem Chg.wr {F : Nat → Prop} {w w' : World} (h : Chg F w w') {p : Addr} (hw : Wr w p) (hn : ¬ F p.block) : Wr w' p := by
  obtain ⟨⟨v, h1⟩, h2⟩ := hw
  exact ⟨⟨v, h.cellv h1 hn⟩, by rw [h.frozen (World.block_lt_of_cell? w p h1) hn]; exact h2⟩
theorem Chg.own {F : Nat → Prop} {w w' : World} (h : Chg F w w') {B : Nat} {e : TypeId} {size : Nat} {v : Value} {n : Nat} {xs : List Value} (ho : w.ownsRow B e size v n xs) (hn : ∀ k, v.ownBlock = some k → ¬ F k) : w'.ownsRow B e size v n xs := by
  obtain ⟨h1, h2⟩ := ho
  refine ⟨h1, ?_⟩
  rcases h2 with h2 | ⟨g, cap, cur, hv, hg, hh, r⟩
  · exact .inl h2
  · exact .inr ⟨g, cap, cur, hv, hg, by rw [h.block g (Array.getElem?_eq_some_iff.1 hh).1 (hn g (by rw [hv]; rfl))]; exact hh, r⟩

/-- the ghost of what may change, from world to world -/
structure Mv (G : Nat → Prop) (w : World) (G' : Nat → Prop) (w' : World) : Prop where
  fr : Chg G w w'
  grow : ∀ i, G i → G' i
  new : ∀ i, G' i → G i ∨ w.heap.size ≤ i

theorem Mv.refl (G : Nat → Prop) (w : World) : Mv G w G w := ⟨Chg.refl _ _, fun _ h => h, fun _ h => .inl h⟩
theorem Mv.trans {G G' G'' : Nat → Prop} {a b c : World} (h : Mv G a G' b) (k : Mv G' b G'' c) : Mv G a G'' c :=
  ⟨h.fr.trans k.fr h.new, fun i hi => k.grow i (h.grow i hi), fun i hi => by
    rcases k.new i hi with h1 | h1
    · exact h.new i h1
    · exact .inr (Nat.le_trans h.fr.size h1)⟩
theorem Mv.of_fr {F G : Nat → Prop} {w w' : World} (h : Chg F w w') (hF : ∀ i, F i → G i) : Mv G w G w' := ⟨h.mono fun i _ hi => hF i hi, fun _ h => h, fun _ h => .inl h⟩
theorem Mv.of_below {G : Nat → Prop} {w w' : World} (h : Below w.heap.size w w') : Mv G w G w' := .of_fr (F := fun _ => False) (.of_below h) fun _ h => h.elim

/-! numbers that never change -/

structure IntsG (G : Nat → Prop) (k : IntKind) (w : World) (s : Sl) (xs : List Int) : Prop where
  ints : Ints k w s xs
  out : ∀ p, s.a = some p → xs ≠ [] → ¬ G p.block

theorem IntsG.mv {G G' : Nat → Prop} {k : IntKind} {w w' : World} {s : Sl} {xs : List Int} (h : IntsG G k w s xs) (m : Mv G w G' w') : IntsG G' k w' s xs := by
  refine ⟨⟨h.ints.len, h.ints.small, fun i x hx => ?_⟩, fun p hp hne hg => ?_⟩
  · obtain ⟨p, hp, hlt, hc⟩ := h.ints.cell i x hx
    have hn := h.out p hp (by intro hh; rw [hh] at hx; simp at hx)
    exact ⟨p, hp, Nat.lt_of_lt_of_le hlt m.fr.size, m.fr.cellv hc (by rw [add_block]; exact hn)⟩
  · rcases m.new _ hg with h1 | h1
    · exact h.out p hp hne h1
    · have := h.ints.here hp hne; omega

theorem IntsG.less {G G' : Nat → Prop} {k : IntKind} {w : World} {s : Sl} {xs : List Int} (h : IntsG G k w s xs) (hG : ∀ i, i < w.heap.size → G' i → G i) : IntsG G' k w s xs :=
  ⟨h.ints, fun p hp hne hg => h.out p hp hne (hG _ (h.ints.here hp hne) hg)⟩

/-- what was there before all that may change -/
theorem Ints.g {G : Nat → Prop} {k : IntKind} {w : World} {s : Sl} {xs : List Int} (h : Ints k w s xs) (hG : ∀ i, G i → w.heap.size ≤ i) : IntsG G k w s xs :=
  ⟨h, fun p hp hne hg => by have := hG _ hg; have := h.here hp hne; omega⟩

/-! slices that never change, by what their elements' cells hold -/

structure ElsG {α : Type} (G : Nat → Prop) (n : Nat) (E : (Nat → Prop) → World → List Value → α → Prop) (w : World) (s : Sl) (xs : List α) : Prop where
  els : Els n (E G) w s xs
  out : ∀ p, s.a = some p → xs ≠ [] → ¬ G p.block

def StabG {α : Type} (E : (Nat → Prop) → World → List Value → α → Prop) : Prop := ∀ (G G' : Nat → Prop) (w w' : World) (cs : List Value) (x : α), Mv G w G' w' → E G w cs x → E G' w' cs x

theorem Els.here {α : Type} {n : Nat} {E : World → List Value → α → Prop} {w : World} {s : Sl} {xs : List α} (h : Els n E w s xs) {p : Addr} (hp : s.a = some p) (hx : xs ≠ []) : p.block < w.heap.size := by
  cases xs with
  | nil => exact absurd rfl hx
  | cons x xs => obtain ⟨q, _, hq, hlt, _⟩ := h.el 0 x rfl; rw [hp] at hq; obtain rfl := Option.some.inj hq; exact hlt

theorem ElsG.mv {α : Type} {G G' : Nat → Prop} {n : Nat} {E : (Nat → Prop) → World → List Value → α → Prop} (hE : StabG E) {w w' : World} {s : Sl} {xs : List α} (h : ElsG G n E w s xs) (m : Mv G w G' w') : ElsG G' n E w' s xs := by
  refine ⟨⟨h.els.len, h.els.small, fun i x hx => ?_⟩, fun p hp hne hg => ?_⟩
  · obtain ⟨p, cs, hp, hlt, hc, he⟩ := h.els.el i x hx
    have hn := h.out p hp (by intro hh; rw [hh] at hx; simp at hx)
    exact ⟨p, cs, hp, Nat.lt_of_lt_of_le hlt m.fr.size, fun j u hu => m.fr.cellv (hc j u hu) (by rw [add_block]; exact hn), hE _ _ _ _ _ _ m he⟩
  · rcases m.new _ hg with h1 | h1
    · exact h.out p hp hne h1
    · have := h.els.here hp hne; omega

/-! a row that grows -/

/-- elements behind a row of the call's own: where it lies then -/
theorem append_at {P : Program} {t ty e : TypeId} {i : TypeInfo} {z : Value} {size bytes : Nat} (ht : P.underlying t = some (.slice e)) (hi : P.info? e = some i) (hz : i.zero = some z) (hsize : i.size = size) (hby : i.bytes = bytes)
    (hzs : z.cells.size = size) (hsz : 0 < size) {w : World} {s : Sl} {n : Nat} {xs : List Value} (h : w.ownsRow 0 e size (.slice s.a s.len s.cap) n xs) {a : Addr} {m c : Nat} {news : List Value} (hl : news.length = m * size) (hnews : ∀ j u, news[j]? = some u → w.cell? (a.add j) = some u)
    (ho : ∀ u ∈ news, u.oneCell' = true) (hm : n + m ≤ maxLen) (hb : (n + m) * bytes ≤ 140737488355328) (hnm : 0 < n + m) :
    ∃ s' : Sl, ∃ w', (builtin .append #[t, t] ty #[] #[.slice s.a s.len s.cap, .slice (some a) m c]).run P w = .ok (.value (.slice s'.a s'.len s'.cap)) w' ∧ s'.len = n + m ∧
      w'.ownsRow 0 e size (.slice s'.a s'.len s'.cap) (n + m) (xs ++ news) ∧ w.grownBy w' (Value.slice s.a s.len s.cap).ownBlock ∧ (∀ p, s'.a = some p → (∃ q, s.a = some q ∧ p.block = q.block) ∨ p.block = w.heap.size) := by
  obtain ⟨v', w', hr, hown, hg, _, hat⟩ := run_append_own_at (P := P) w 0 t ty e i z size bytes ht hi hz hsize hby hzs hsz _ n xs h a m c news hl hnews ho hm hb (Nat.zero_le _)
  have hv : ∃ s' : Sl, v' = .slice s'.a s'.len s'.cap ∧ s'.len = n + m := by
    rcases hown.2 with ⟨rfl, h0⟩ | ⟨g, cap, cur, rfl, _⟩
    · omega
    · exact ⟨⟨some ⟨g, 0, none⟩, n + m, cap⟩, rfl, rfl⟩
  obtain ⟨s', rfl, hlen⟩ := hv
  refine ⟨s', w', by simp [builtin, hr], hlen, hown, hg, fun p hp => ?_⟩
  rw [hp] at hat
  rcases hat with h1 | h1
  · left
    cases hq : s.a with
    | none => rw [hq] at h1; simp [Value.ownBlock] at h1
    | some q => rw [hq] at h1; simp [Value.ownBlock] at h1; exact ⟨q, rfl, h1⟩
  · right; simpa [Value.ownBlock] using h1

end Go.Lf
