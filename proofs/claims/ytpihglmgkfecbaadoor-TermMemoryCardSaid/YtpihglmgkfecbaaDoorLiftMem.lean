/-
  Memory, more: boxes of the call's own; slices whose elements are wider than a cell, read by a relation of their own; how such slices come in.
-/
import Derived.Test.YtpihglmgkfecbaaDoorLiftLib
import Derived.Deep.Slices
namespace Go.Lf
open Go Go.RowKit Go.ChangeShapes

/-! boxes -/

theorem newA_add (w : World) (j : Nat) : (newA w).add j = ⟨w.heap.size, j, none⟩ := by
  unfold Addr.add newA; split <;> simp_all

theorem newA_block (w : World) : (newA w).block = w.heap.size := rfl

theorem size_alloc (w : World) (o : Obj) : (w.alloc o).heap.size = w.heap.size + 1 := Array.size_push _

theorem cell_new (w : World) (cs : Array Value) (T : TypeId) (j : Nat) : (w.alloc (.cells cs T)).cell? ((newA w).add j) = cs[j]? := by
  rw [newA_add]; exact World.cell?_alloc_new ..

theorem cell_new0 (w : World) (cs : Array Value) (T : TypeId) : (w.alloc (.cells cs T)).cell? (newA w) = cs[0]? := by
  have := cell_new w cs T 0
  rwa [add_zero] at this

theorem setCell_alloc (w : World) (cs : List Value) (T : TypeId) (j : Nat) (v : Value) : (w.alloc (.cells cs.toArray T)).setCell ((newA w).add j) v = w.alloc (.cells (cs.set j v).toArray T) := by
  rw [newA_add]
  unfold World.setCell World.alloc
  simp only
  congr 1
  apply Array.ext
  · simp
  · intro i h1 h2
    simp only [Array.getElem_modify, Array.getElem_push]
    split
    · rename_i h
      subst h
      simp
    · rename_i hne
      have : i < w.heap.size := by simp at h2; omega
      rw [dif_pos this, dif_pos this]

theorem setCells_alloc (w : World) (T : TypeId) : ∀ (vs a b : List Value), b.length = vs.length → setCells (newA w) vs a.length (w.alloc (.cells (a ++ b).toArray T)) = w.alloc (.cells (a ++ vs).toArray T)
  | [], a, b, h => by
    have : b = [] := by simpa using h
    subst this; rfl
  | v :: r, a, b, h => by
    cases b with
    | nil => simp at h
    | cons u b =>
      unfold setCells
      rw [setCell_alloc]
      have := setCells_alloc w T r (a ++ [v]) b (by simpa using h)
      simp only [List.length_append, List.length_cons, List.length_nil, List.append_assoc, List.cons_append, List.nil_append] at this
      rw [← this]
      simp

theorem box_set {w : World} {T : TypeId} {zs cs : List Value} (h : zs.length = cs.length) : setCells (newA w) cs 0 (w.alloc (.cells zs.toArray T)) = w.alloc (.cells cs.toArray T) :=
  setCells_alloc w T cs [] zs h

theorem box_set2 {w : World} {T : TypeId} {a b x y : Value} : setCells (newA w) [a, b] 0 (w.alloc (.cells #[x, y] T)) = w.alloc (.cells #[a, b] T) := box_set (zs := [x, y]) rfl
theorem box_set3 {w : World} {T : TypeId} {a b c x y z : Value} : setCells (newA w) [a, b, c] 0 (w.alloc (.cells #[x, y, z] T)) = w.alloc (.cells #[a, b, c] T) := box_set (zs := [x, y, z]) rfl
theorem box_set1' {w : World} {T : TypeId} {a x : Value} : (w.alloc (.cells #[x] T)).setCell (newA w) a = w.alloc (.cells #[a] T) := by
  have := setCell_alloc w [x] T 0 a
  rwa [add_zero] at this

theorem wr_new (w : World) (cs : Array Value) (T : TypeId) {j : Nat} (h : j < cs.size) : Wr (w.alloc (.cells cs T)) ((newA w).add j) := by
  refine ⟨⟨cs[j], by rw [cell_new, Array.getElem?_eq_getElem h]⟩, ?_⟩
  rw [newA_add]; exact World.frozen?_alloc_at _ _ _ _ rfl
theorem wr_new0 (w : World) (cs : Array Value) (T : TypeId) (h : 0 < cs.size) : Wr (w.alloc (.cells cs T)) (newA w) := by
  have := wr_new w cs T h
  rwa [add_zero] at this

/-- what can be written stays so -/
theorem Wr.below {B : Nat} {w w' : World} {a : Addr} (h : Wr w a) (hb : Below B w w') (hB : a.block < B) : Wr w' a := by
  obtain ⟨⟨v, h1⟩, h2⟩ := h
  exact ⟨⟨v, by rw [hb.cell hB]; exact h1⟩, by rw [hb.frozen hB]; exact h2⟩

theorem below_alloc (w : World) (o : Obj) : Below w.heap.size w (w.alloc o) := (Below.refl _ _).alloc (Nat.le_refl _) o

/-- a call behind a call -/
theorem _root_.Go.RowKit.Below.next {a b c : World} {B : Nat} (h : Below B a b) (k : Below b.heap.size b c) (hB : B ≤ a.heap.size) : Below B a c :=
  h.trans (k.mono (Nat.le_trans hB h.size))
theorem _root_.Go.RowKit.Below.then {a b c : World} (h : Below a.heap.size a b) (k : Below b.heap.size b c) : Below a.heap.size a c := h.next k (Nat.le_refl _)

theorem below_setCells {B : Nat} {a : World} {p : Addr} (hp : B ≤ p.block) : ∀ (vs : List Value) (i : Nat) {w : World}, Below B a w → Below B a (setCells p vs i w)
  | [], _, _, h => h
  | v :: r, i, w, h => below_setCells hp r (i + 1) (h.setCell (by rw [add_block]; exact hp) v)

theorem cell_alloc_old {w : World} {p : Addr} {v : Value} {o : Obj} (h : w.cell? p = some v) : (w.alloc o).cell? p = some v := by
  rw [(below_alloc w o).cell (World.block_lt_of_cell? w p h)]; exact h

/-- a cell of the world before -/
theorem _root_.Go.RowKit.Below.cellv {B : Nat} {w w' : World} (h : Below B w w') {p : Addr} {v : Value} (hc : w.cell? p = some v) (hp : p.block < B) : w'.cell? p = some v := by rw [h.cell hp]; exact hc
theorem _root_.Go.RowKit.Below.here {w w' : World} (h : Below w.heap.size w w') {p : Addr} {v : Value} (hc : w.cell? p = some v) : w'.cell? p = some v := h.cellv hc (World.block_lt_of_cell? w p hc)

theorem add_off (q : Addr) (i : Nat) : (q.add i).off = q.off + i := by unfold Addr.add; split <;> simp_all
theorem add_inj {q : Addr} {i j : Nat} (h : q.add i = q.add j) : i = j := by
  have := congrArg Addr.off h
  rw [add_off, add_off] at this
  omega

/-- what was stored is there -/
theorem cell_setCells_out (q : Addr) : ∀ (vs : List Value) (i : Nat) (w : World) (p : Addr), (∀ j, j < vs.length → q.add (i + j) ≠ p) → (setCells q vs i w).cell? p = w.cell? p
  | [], _, _, _, _ => rfl
  | v :: r, i, w, p, h => by
    unfold setCells
    rw [cell_setCells_out q r (i + 1) _ p fun j hj => by have := h (j + 1) (by simpa using hj); rwa [show i + (j + 1) = i + 1 + j by omega] at this]
    exact World.cell?_setCell_other _ _ _ _ (by have := h 0 (by simp); simpa using this)

theorem cell_setCells (q : Addr) : ∀ (vs : List Value) (i : Nat) (w : World), (∀ j, j < vs.length → ∃ old, w.cell? (q.add (i + j)) = some old) → ∀ (j : Nat) (u : Value), vs[j]? = some u → (setCells q vs i w).cell? (q.add (i + j)) = some u
  | [], _, _, _, j, u, hu => by simp at hu
  | v :: r, i, w, h, j, u, hu => by
    unfold setCells
    cases j with
    | zero =>
      simp at hu
      subst hu
      rw [cell_setCells_out q r (i + 1) _ _ fun j _ he => by have := add_inj he; omega]
      obtain ⟨old, ho⟩ := h 0 (by simp)
      simp only [Nat.add_zero] at ho ⊢
      exact World.cell?_setCell_same _ _ _ ho
    | succ j =>
      rw [show i + (j + 1) = i + 1 + j by omega]
      refine cell_setCells q r (i + 1) _ (fun k hk => ?_) j u (by simpa using hu)
      obtain ⟨old, ho⟩ := h (k + 1) (by simpa using hk)
      rw [show i + (k + 1) = i + 1 + k by omega] at ho
      exact setCell_some ho

theorem cells3 {w : World} (q : Addr) (hw : ∀ j, j < 3 → Wr w (q.add j)) (a b c : Value) :
    (setCells q [a, b, c] 0 w).cell? q = some a ∧ (setCells q [a, b, c] 0 w).cell? (q.add 1) = some b ∧ (setCells q [a, b, c] 0 w).cell? (q.add 2) = some c := by
  have h := cell_setCells q [a, b, c] 0 w fun j hj => by rw [Nat.zero_add]; exact (hw j hj).1
  have h0 := h 0 a rfl
  rw [Nat.zero_add, add_zero] at h0
  exact ⟨h0, by have := h 1 b rfl; rwa [Nat.zero_add] at this, by have := h 2 c rfl; rwa [Nat.zero_add] at this⟩

/-! writing in a row of the call's own -/

theorem own_form {B : Nat} {e : TypeId} {size : Nat} {w : World} {s : Sl} {n : Nat} {vs : List Value} (h : w.ownsRow B e size (.slice s.a s.len s.cap) n vs) {p : Addr} (hp : s.a = some p) : p = ⟨p.block, 0, none⟩ ∧ s.len = n ∧ B ≤ p.block ∧ p.block < w.heap.size := by
  have hlt := h.lt p.block (by rw [hp]; rfl)
  rcases h.2 with ⟨h', _⟩ | ⟨g, cap, cur, h', _⟩
  · simp only [Value.slice.injEq] at h'; rw [hp] at h'; simp at h'
  · simp only [Value.slice.injEq] at h'
    rw [hp] at h'
    obtain ⟨h1, h2, _⟩ := h'
    obtain rfl := Option.some.inj h1
    exact ⟨rfl, h2, hlt⟩

theorem own_set {B : Nat} {e : TypeId} {size : Nat} {w : World} {s : Sl} {n : Nat} {vs : List Value} (h : w.ownsRow B e size (.slice s.a s.len s.cap) n vs) {p : Addr} (hp : s.a = some p) {j : Nat} (hj : j < vs.length) (u : Value) :
    Wr w (p.add j) ∧ (w.setCell (p.add j) u).ownsRow B e size (.slice s.a s.len s.cap) n (vs.set j u) := by
  obtain ⟨he, hl, _, _⟩ := own_form h hp
  have hpj : p.add j = ⟨p.block, j, none⟩ := by
    have : p.add j = (⟨p.block, 0, none⟩ : Addr).add j := by rw [← he]
    rw [this]
    unfold Addr.add
    split
    · rename_i h0; rw [h0]
    · simp
  rw [hp, hl, he] at h ⊢
  have hjn : j < n * size := by rw [← h.1]; exact hj
  have := h.cellAt j hjn
  rw [List.getElem?_eq_getElem hj] at this
  rw [he] at hpj
  rw [hpj]
  exact ⟨⟨⟨_, this⟩, h.frozenAt j⟩, (h.stored j u).1⟩

theorem OwnI.set {B : Nat} {e : TypeId} {k : IntKind} {w : World} {s : Sl} {xs : List Int} (h : OwnI B e k w s xs) {p : Addr} (hp : s.a = some p) {j : Nat} (hj : j < xs.length) (x : Int) :
    Wr w (p.add j) ∧ OwnI B e k (w.setCell (p.add j) (.int k x)) s (xs.set j x) ∧ B ≤ p.block := by
  obtain ⟨h1, h2⟩ := own_set h hp (j := j) (by simpa using hj) (.int k x)
  refine ⟨h1, ?_, (own_form h hp).2.2.1⟩
  unfold OwnI
  rw [List.map_set, List.length_set]
  exact h2

/-! slices with wide elements: 'E' tells what an element's cells hold -/

structure Els {α : Type} (n : Nat) (E : World → List Value → α → Prop) (w : World) (s : Sl) (xs : List α) : Prop where
  len : s.len = xs.length
  small : s.len ≤ 9223372036854775807
  el : ∀ (i : Nat) (x : α), xs[i]? = some x → ∃ p cs, s.a = some p ∧ p.block < w.heap.size ∧ (∀ (j : Nat) (u : Value), cs[j]? = some u → w.cell? (p.add (i * n + j)) = some u) ∧ E w cs x

/-- it stays while what was there stays -/
def Stab {α : Type} (E : World → List Value → α → Prop) : Prop := ∀ (w w' : World) (cs : List Value) (x : α), Below w.heap.size w w' → E w cs x → E w' cs x

theorem Els.nil {α : Type} {n : Nat} {E : World → List Value → α → Prop} {w : World} {a : Option Addr} {c : Nat} : Els n E w ⟨a, 0, c⟩ [] := ⟨rfl, by simp, fun i x h => by simp at h⟩

theorem Els.keep {α : Type} {n : Nat} {E : World → List Value → α → Prop} (hE : Stab E) {w w' : World} {s : Sl} {xs : List α} (h : Els n E w s xs) (hb : Below w.heap.size w w') : Els n E w' s xs := by
  refine ⟨h.len, h.small, fun i x hx => ?_⟩
  obtain ⟨p, cs, hp, hlt, hc, he⟩ := h.el i x hx
  exact ⟨p, cs, hp, Nat.lt_of_lt_of_le hlt hb.size, fun j u hu => by rw [hb.cell (by rw [add_block]; exact hlt)]; exact hc j u hu, hE _ _ _ _ hb he⟩

/-- the i-th -/
theorem Els.get {α : Type} {n : Nat} {E : World → List Value → α → Prop} {w : World} {s : Sl} {xs : List α} (h : Els n E w s xs) {i : Int} (h0 : 0 ≤ i) (h1 : i < s.len) :
    ∃ p x cs, s.a = some p ∧ p.block < w.heap.size ∧ xs[i.toNat]? = some x ∧ (∀ (j : Nat) (u : Value), cs[j]? = some u → w.cell? ((p.add (i.toNat * n)).add j) = some u) ∧ E w cs x := by
  have hlt : i.toNat < xs.length := by have := h.len; omega
  obtain ⟨p, cs, hp, hb, hc, he⟩ := h.el i.toNat _ (List.getElem?_eq_getElem hlt)
  exact ⟨p, _, cs, hp, hb, List.getElem?_eq_getElem hlt, fun j u hu => by rw [add_add]; exact hc j u hu, he⟩

/-- a slice in a cell -/
def SliceC {α : Type} (n : Nat) (E : World → List Value → α → Prop) (w : World) (cs : List Value) (xs : List α) : Prop := ∃ s : Sl, cs = [.slice s.a s.len s.cap] ∧ Els n E w s xs
theorem SliceC.stab {α : Type} {n : Nat} {E : World → List Value → α → Prop} (hE : Stab E) : Stab (SliceC n E) := fun _ _ _ _ hb ⟨s, hs, h⟩ => ⟨s, hs, h.keep hE hb⟩

def IntC (k : IntKind) (_ : World) (cs : List Value) (x : Int) : Prop := cs = [.int k x] ∧ (Lit.int k x).wf = true
theorem IntC.stab {k : IntKind} : Stab (IntC k) := fun _ _ _ _ _ h => h
def BoolC (_ : World) (cs : List Value) (x : Bool) : Prop := cs = [.bool x]
theorem BoolC.stab : Stab BoolC := fun _ _ _ _ _ h => h

def IntsC (k : IntKind) (w : World) (cs : List Value) (xs : List Int) : Prop := ∃ s : Sl, cs = [.slice s.a s.len s.cap] ∧ Ints k w s xs
theorem IntsC.stab {k : IntKind} : Stab (IntsC k) := fun _ _ _ _ hb ⟨s, hs, h⟩ => ⟨s, hs, h.keep hb⟩

/-! how they come in -/

/-- what is read of this type is told by E -/
structure Reads (P : Program) (T : TypeId) {α : Type} (E : World → List Value → α → Prop) : Prop where
  go : ∀ {H : Type} {enc : TypeId × Value → H} {w : World} {base : Nat} {spare : Nat → Bool} {held : Bool} {fuel : Nat} {cs : List Value} {x : DataW H × List MemPlace}, DataW.trod enc P w base spare held fuel T cs = some x → ∃ a, E w cs a

theorem Reads.mono {P : Program} {T : TypeId} {α β : Type} {E : World → List Value → α → Prop} {F : World → List Value → β → Prop} (h : Reads P T E) (g : ∀ w cs a, E w cs a → ∃ b, F w cs b) : Reads P T F :=
  ⟨fun hx => by obtain ⟨a, ha⟩ := h.go hx; exact g _ _ _ ha⟩

theorem reads_int {P : Program} {T : TypeId} {k : IntKind} (ht : P.underlying T = some (.int k)) : Reads P T (IntC k) := by
  constructor
  intro H enc w base spare held fuel cs x h
  obtain ⟨m, rfl, rfl, hw⟩ := DataW.trod_int ht h
  exact ⟨m, rfl, hw⟩

theorem reads_bool {P : Program} {T : TypeId} (ht : P.underlying T = some .bool) : Reads P T BoolC := by
  constructor
  intro H enc w base spare held fuel cs x h
  cases fuel with
  | zero => simp [DataW.trod] at h
  | succ n =>
    rw [DataW.trod_step] at h
    unfold DataW.trodStep at h
    rw [ht] at h
    split at h <;> simp_all [BoolC]

theorem mapM_getElem {α β : Type} {f : α → Option β} : ∀ {l : List α} {r : List β}, l.mapM f = some r → ∀ (j : Nat) (x : α), l[j]? = some x → ∃ y, r[j]? = some y ∧ f x = some y := by
  intro l
  induction l with
  | nil => intro r h j x hx; simp at hx
  | cons z zs ih =>
    intro r h j x hx
    rw [List.mapM_cons] at h
    cases hz : f z with
    | none => simp [hz] at h
    | some y =>
      cases hzs : zs.mapM f with
      | none => simp [hz, hzs] at h
      | some ys =>
        simp [hz, hzs] at h
        subst h
        cases j with
        | zero => simp at hx; subst hx; exact ⟨y, by simp, hz⟩
        | succ j => simp at hx ⊢; exact ih hzs j x hx

theorem cells_at {w : World} {base : Nat} {a : Addr} {n : Nat} {cs : List Value} (h : w.cells? base a n = some cs) : cs.length = n ∧ ∀ (j : Nat) (u : Value), cs[j]? = some u → w.cell? (a.add j) = some u := by
  unfold World.cells? at h
  split at h
  · have hl : cs.length = n := by have := mapM_some_length h; simpa using this
    refine ⟨hl, fun j u hu => ?_⟩
    have hj : j < n := by rw [← hl]; exact (List.getElem?_eq_some_iff.1 hu).1
    obtain ⟨y, hy, hc⟩ := mapM_getElem h j j (by simp [hj])
    rw [hu] at hy
    cases hy
    exact hc
  · cases h

theorem reads_slice {P : Program} {T e : TypeId} {n : Nat} {α : Type} {E : World → List Value → α → Prop} (ht : P.underlying T = some (.slice e)) (hc : P.cellsOf e = n) (hn : 0 < n) (he : Reads P e E) (hlen : ∀ w cs a, E w cs a → cs.length = n) : Reads P T (SliceC n E) := by
  subst hc
  constructor
  intro H enc w base spare held fuel cs x h
  rcases Go.Deep.open_slice ht h with ⟨rfl, _⟩ | ⟨a, len, cap, m, f, D, Pl, rfl, _, hl, hm, hmm, _, hel⟩
  · exact ⟨[], ⟨none, 0, 0⟩, rfl, Els.nil⟩
  have hlm : len ≤ m := by rw [hmm]; split <;> omega
  have each : ∀ i, i < len → ∃ x cs', (∀ (j : Nat) (u : Value), cs'[j]? = some u → w.cell? (a.add (i * P.cellsOf e + j)) = some u) ∧ E w cs' x := by
    intro i hi
    obtain ⟨cs', h1, h2⟩ := hel i (by omega)
    obtain ⟨x, hx⟩ := he.go h2
    obtain ⟨_, h3⟩ := cells_at h1
    exact ⟨x, cs', fun j u hu => by rw [← add_add]; exact h3 j u hu, hx⟩
  have all : ∀ k, k ≤ len → ∃ xs : List α, xs.length = k ∧ ∀ (i : Nat) (x : α), xs[i]? = some x → ∃ cs', (∀ (j : Nat) (u : Value), cs'[j]? = some u → w.cell? (a.add (i * P.cellsOf e + j)) = some u) ∧ E w cs' x := by
    intro k
    induction k with
    | zero => intro _; exact ⟨[], rfl, fun i x h => by simp at h⟩
    | succ k ih =>
      intro hk
      obtain ⟨xs, hx, h⟩ := ih (by omega)
      obtain ⟨y, cs', h1, h2⟩ := each k (by omega)
      refine ⟨xs ++ [y], by simp [hx], fun i x hi => ?_⟩
      by_cases hlt : i < xs.length
      · rw [List.getElem?_append_left hlt] at hi; exact h i x hi
      · rw [List.getElem?_append_right (by omega)] at hi
        have h0 : i - xs.length = 0 := by
          have := (List.getElem?_eq_some_iff.1 hi).1; simp at this; omega
        rw [h0] at hi
        simp at hi
        subst hi
        exact ⟨cs', by rw [show i = k by omega]; exact h1, h2⟩
  obtain ⟨xs, hx, h⟩ := all len (Nat.le_refl _)
  refine ⟨xs, ⟨some a, len, cap⟩, rfl, hx.symm, by simp only; unfold maxLen at hm; omega, fun i x hi => ?_⟩
  obtain ⟨cs', h1, h2⟩ := h i x hi
  refine ⟨a, cs', rfl, ?_, h1, h2⟩
  have hl2 := hlen _ _ _ h2
  have hz : cs'[0]? = some cs'[0] := List.getElem?_eq_getElem (by omega)
  have := World.block_lt_of_cell? w _ (h1 0 _ hz)
  rwa [add_block] at this

/-- a struct: each field by its reader -/
theorem struct_fields {P : Program} {T : TypeId} {fs : Array Field} (ht : P.underlying T = some (.struct fs)) {H : Type} {enc : TypeId × Value → H} {w : World} {base : Nat} {spare : Nat → Bool} {held : Bool} {fuel : Nat} {cs : List Value} {x : DataW H × List MemPlace}
    (h : DataW.trod enc P w base spare held fuel T cs = some x) : cs.length = P.cellsOf T ∧ ∃ n, ∀ f ∈ fs.toList, ∃ y, DataW.trod enc P w base spare held n f.type ((cs.drop f.offset).take (P.cellsOf f.type)) = some y := by
  cases fuel with
  | zero => simp [DataW.trod] at h
  | succ n =>
    rw [DataW.trod_step] at h
    unfold DataW.trodStep at h
    rw [ht] at h
    simp only at h
    split at h
    · rename_i hl
      refine ⟨hl, n, fun f hf => ?_⟩
      simp only [Option.map_eq_some_iff] at h
      obtain ⟨xs, hxs, _⟩ := h
      obtain ⟨j, hj⟩ := List.mem_iff_getElem?.1 hf
      obtain ⟨y, _, hy⟩ := mapM_getElem hxs j f hj
      exact ⟨y, hy⟩
    · cases h

/-- an array: each element by its reader -/
theorem array_elems {P : Program} {T e : TypeId} {n : Nat} (ht : P.underlying T = some (.array n e)) {H : Type} {enc : TypeId × Value → H} {w : World} {base : Nat} {spare : Nat → Bool} {held : Bool} {fuel : Nat} {cs : List Value} {x : DataW H × List MemPlace}
    (h : DataW.trod enc P w base spare held fuel T cs = some x) : cs.length = P.cellsOf T ∧ ∃ m, ∀ i, i < n → ∃ y, DataW.trod enc P w base spare held m e ((cs.drop (i * P.cellsOf e)).take (P.cellsOf e)) = some y := by
  cases fuel with
  | zero => simp [DataW.trod] at h
  | succ m =>
    rw [DataW.trod_step] at h
    unfold DataW.trodStep at h
    rw [ht] at h
    simp only at h
    split at h
    · rename_i hl
      refine ⟨hl, m, fun i hi => ?_⟩
      simp only [Option.map_eq_some_iff] at h
      obtain ⟨xs, hxs, _⟩ := h
      obtain ⟨y, _, hy⟩ := mapM_getElem hxs i i (by simp [hi])
      exact ⟨y, hy⟩
    · cases h

theorem reads_ints {P : Program} {T e : TypeId} {k : IntKind} (ht : P.underlying T = some (.slice e)) (he : P.underlying e = some (.int k)) (hc : P.cellsOf e = 1) : Reads P T (IntsC k) := by
  refine (reads_slice ht hc (by omega) (reads_int he) fun w cs a h => by rw [h.1]; rfl).mono ?_
  rintro w cs xs ⟨s, rfl, h⟩
  refine ⟨xs, s, rfl, h.len, h.small, fun i x hx => ?_⟩
  obtain ⟨p, cs', hp, hlt, hcc, rfl, _⟩ := h.el i x hx
  exact ⟨p, hp, hlt, by have := hcc 0 _ rfl; simpa using this⟩

/-- a value that came in, by its reader -/
theorem Reads.open {P : Program} {T : TypeId} {α : Type} {E : World → List Value → α → Prop} (hr : Reads P T E) {H : Type} {enc : TypeId × Value → H} {w : World} {base : Nat} {sp : Nat → Bool} {held : Bool} {v : Value} {d : DataW H} {ps : List MemPlace}
    (h : DataW.Trod enc P w base sp held T v d ps) : ∃ a, E w v.cells.toList a := by
  obtain ⟨fuel, h⟩ := h
  exact hr.go h

end Go.Lf
