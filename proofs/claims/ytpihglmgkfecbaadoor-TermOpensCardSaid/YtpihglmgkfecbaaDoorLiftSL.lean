/-
  Objects in memory that have nothing in common: 'Sep B w l': each of the assertions of l holds of w by blocks of its own, from block B on.
-/
import Derived.Test.YtpihglmgkfecbaaDoorLiftFr
namespace Go.Lf
open Go Go.RowKit Go.ChangeShapes
set_option linter.unusedVariables false

structure Asn where
  on : (Nat → Prop) → World → Prop
  loc : ∀ {F : Nat → Prop} {w w' : World}, on F w → (∀ i, F i → w'.heap[i]? = w.heap[i]?) → on F w'
  grow : ∀ {F F' : Nat → Prop} {w : World}, on F w → (∀ i, F i → F' i) → on F' w

def SepR : (Nat → Prop) → World → List Asn → Prop
  | _, _, [] => True
  | U, w, A :: r => ∃ F : Nat → Prop, (∀ i, F i → U i) ∧ A.on F w ∧ SepR (fun i => U i ∧ ¬ F i) w r

theorem SepR.mono : ∀ {l : List Asn} {U U' : Nat → Prop} {w : World}, SepR U w l → (∀ i, U i → U' i) → SepR U' w l
  | [], _, _, _, _, _ => trivial
  | A :: r, U, U', w, ⟨F, h1, h2, h3⟩, h => ⟨F, fun i hi => h i (h1 i hi), h2, SepR.mono h3 fun i hi => ⟨h i hi.1, hi.2⟩⟩

theorem SepR.loc : ∀ {l : List Asn} {U : Nat → Prop} {w w' : World}, SepR U w l → (∀ i, U i → w'.heap[i]? = w.heap[i]?) → SepR U w' l
  | [], _, _, _, _, _ => trivial
  | A :: r, U, w, w', ⟨F, h1, h2, h3⟩, h => ⟨F, h1, A.loc h2 fun i hi => h i (h1 i hi), SepR.loc h3 fun i hi => h i hi.1⟩

theorem SepR.perm {l l' : List Asn} (hp : l.Perm l') : ∀ {U : Nat → Prop} {w : World}, SepR U w l → SepR U w l' := by
  induction hp with
  | nil => intro U w h; exact h
  | cons A _ ih => intro U w ⟨F, h1, h2, h3⟩; exact ⟨F, h1, h2, ih h3⟩
  | swap A C l =>
    intro U w ⟨F, h1, h2, F2, h3, h4, h5⟩
    refine ⟨F2, fun i hi => (h3 i hi).1, h4, F, fun i hi => ⟨h1 i hi, fun h => (h3 i h).2 hi⟩, h2, h5.mono fun i hi => ⟨⟨hi.1.1, hi.2⟩, hi.1.2⟩⟩
  | trans _ _ ih1 ih2 => intro U w h; exact ih2 (ih1 h)

theorem SepR.append : ∀ {l l' : List Asn} {U : Nat → Prop} {w : World}, SepR U w (l ++ l') → ∃ F : Nat → Prop, (∀ i, F i → U i) ∧ SepR F w l ∧ SepR (fun i => U i ∧ ¬ F i) w l'
  | [], l', U, w, h => ⟨fun _ => False, fun _ h => h.elim, trivial, h.mono fun i hi => ⟨hi, fun h => h⟩⟩
  | A :: r, l', U, w, ⟨F, h1, h2, h3⟩ => by
    obtain ⟨F', k1, k2, k3⟩ := SepR.append h3
    refine ⟨fun i => F i ∨ F' i, fun i hi => hi.elim (h1 i) fun h => (k1 i h).1, ⟨F, fun i hi => .inl hi, h2, k2.mono fun i hi => ⟨.inr hi, (k1 i hi).2⟩⟩, k3.mono fun i hi => ⟨hi.1.1, fun h => h.elim hi.1.2 hi.2⟩⟩

theorem SepR.join : ∀ {l l' : List Asn} {U F : Nat → Prop} {w : World}, (∀ i, F i → U i) → SepR F w l → SepR (fun i => U i ∧ ¬ F i) w l' → SepR U w (l ++ l')
  | [], l', U, F, w, _, _, h => h.mono fun i hi => hi.1
  | A :: r, l', U, F, w, hF, ⟨F0, h1, h2, h3⟩, h => by
    refine ⟨F0, fun i hi => hF i (h1 i hi), h2, SepR.join (F := fun i => F i ∧ ¬ F0 i) (fun i hi => ⟨hF i hi.1, hi.2⟩) h3 (h.mono fun i hi => ⟨⟨hi.1, fun h0 => hi.2 (h1 i h0)⟩, fun hh => hi.2 hh.1⟩)⟩

def reg (B : Nat) (w : World) : Nat → Prop := fun i => B ≤ i ∧ i < w.heap.size

structure Sep (B : Nat) (w : World) (l : List Asn) : Prop where
  le : B ≤ w.heap.size
  sep : SepR (reg B w) w l

theorem Sep.nil {B : Nat} {w : World} (h : B ≤ w.heap.size) : Sep B w [] := ⟨h, trivial⟩
theorem Sep.perm {B : Nat} {w : World} {l l' : List Asn} (h : Sep B w l) (hp : l.Perm l') : Sep B w l' := ⟨h.le, h.sep.perm hp⟩

/-- some objects are turned into others -/
theorem Sep.turn {B : Nat} {w : World} {l R : List Asn} (h : Sep B w (l ++ R)) : ∃ F : Nat → Prop, SepR F w l ∧ (∀ i, F i → B ≤ i ∧ i < w.heap.size) ∧
    ∀ {l' : List Asn} {F' : Nat → Prop} {w' : World}, SepR F' w' l' → Chg F w w' → (∀ i, F' i → (F i ∨ w.heap.size ≤ i) ∧ i < w'.heap.size) → Sep B w' (l' ++ R) := by
  obtain ⟨F, h1, h2, h3⟩ := h.sep.append
  refine ⟨F, h2, h1, fun {l' F' w'} k1 k2 k3 => ⟨Nat.le_trans h.le k2.size, SepR.join (F := F') (fun i hi => ?_) k1 ?_⟩⟩
  · obtain ⟨h4, h5⟩ := k3 i hi
    refine ⟨?_, h5⟩
    rcases h4 with h4 | h4
    · exact (h1 i h4).1
    · exact Nat.le_trans h.le h4
  · have h6 : SepR (fun i => reg B w i ∧ ¬ F i) w' R := h3.loc fun i hi => k2.block i hi.1.2 hi.2
    refine h6.mono fun i hi => ⟨⟨hi.1.1, Nat.lt_of_lt_of_le hi.1.2 k2.size⟩, fun hf => ?_⟩
    rcases (k3 i hf).1 with h7 | h7
    · exact hi.2 h7
    · exact absurd hi.1.2 (Nat.not_lt.2 h7)

theorem SepR.one {U : Nat → Prop} {w : World} {A : Asn} : SepR U w [A] ↔ A.on U w :=
  ⟨fun ⟨_, h1, h2, _⟩ => A.grow h2 h1, fun h => ⟨U, fun _ h => h, h, trivial⟩⟩

theorem Sep.open {B : Nat} {w : World} {A : Asn} {R : List Asn} (h : Sep B w (A :: R)) : ∃ F : Nat → Prop, A.on F w ∧ (∀ i, F i → B ≤ i ∧ i < w.heap.size) ∧
    ∀ {A' : Asn} {F' : Nat → Prop} {w' : World}, A'.on F' w' → Chg F w w' → (∀ i, F' i → (F i ∨ w.heap.size ≤ i) ∧ i < w'.heap.size) → Sep B w' (A' :: R) := by
  obtain ⟨F, h1, h2, h3⟩ := Sep.turn (l := [A]) h
  exact ⟨F, SepR.one.1 h1, h2, fun k1 k2 k3 => h3 (l' := [_]) (SepR.one.2 k1) k2 k3⟩

theorem Sep.drop {B : Nat} {w : World} {A : Asn} {R : List Asn} (h : Sep B w (A :: R)) : Sep B w R := by
  obtain ⟨F, h1, h2, h3⟩ := h.sep
  exact ⟨h.le, h3.mono fun i hi => hi.1⟩
theorem Sep.dropL {B : Nat} {w : World} : ∀ {l R : List Asn}, Sep B w (l ++ R) → Sep B w R
  | [], _, h => h
  | _ :: _, _, h => Sep.dropL (Sep.drop h)

/-- all stays where nothing that was there turns -/
theorem Sep.keep {B : Nat} {w w' : World} {l : List Asn} (h : Sep B w l) (hb : Below w.heap.size w w') : Sep B w' l :=
  ⟨Nat.le_trans h.le hb.size, (h.sep.loc fun i hi => hb.block i hi.2).mono fun i hi => ⟨hi.1, Nat.lt_of_lt_of_le hi.2 hb.size⟩⟩
theorem Sep.same {B : Nat} {w w' : World} {l : List Asn} (h : Sep B w l) (hs : Same w w') : Sep B w' l := h.keep (hs.below _)
theorem Sep.drew {B : Nat} {w : World} {l : List Asn} (h : Sep B w l) : Sep B w.drew l := h.same (Same.drew w)

theorem Sep.newL {B : Nat} {w w' : World} {l R : List Asn} {F : Nat → Prop} (h : Sep B w R) (hA : SepR F w' l) (hF : ∀ i, F i → w.heap.size ≤ i ∧ i < w'.heap.size) (hb : Below w.heap.size w w') : Sep B w' (l ++ R) := by
  obtain ⟨F0, h1, h2, h3⟩ := Sep.turn (l := []) (R := R) h
  exact h3 hA (Chg.of_below hb) fun i hi => ⟨.inr (hF i hi).1, (hF i hi).2⟩
theorem Sep.new {B : Nat} {w w' : World} {A : Asn} {R : List Asn} {F : Nat → Prop} (h : Sep B w R) (hA : A.on F w') (hF : ∀ i, F i → w.heap.size ≤ i ∧ i < w'.heap.size) (hb : Below w.heap.size w w') : Sep B w' (A :: R) :=
  Sep.newL (l := [A]) h (SepR.one.2 hA) hF hb

theorem perm_front {α : Type} : ∀ {l : List α} {k : Nat} {A : α}, l[k]? = some A → l.Perm (A :: l.eraseIdx k)
  | [], _, _, h => by simp at h
  | x :: r, 0, A, h => by simp at h; subst h; exact .refl _
  | x :: r, k + 1, A, h => by
    have := perm_front (l := r) (k := k) (A := A) (by simpa using h)
    exact (this.cons x).trans (.swap A x _)

/-- number k in front -/
theorem Sep.front {B : Nat} {w : World} {l : List Asn} (k : Nat) {A : Asn} (hk : l[k]? = some A) (h : Sep B w l) : Sep B w (A :: l.eraseIdx k) := h.perm (perm_front hk)
theorem Sep.back {B : Nat} {w : World} {l : List Asn} (k : Nat) {A : Asn} (hk : k < l.length) (h : Sep B w (A :: l.eraseIdx k)) : Sep B w (l.set k A) := by
  refine h.perm ?_
  have h1 := perm_front (l := l.set k A) (k := k) (A := A) (by simp [hk])
  rw [List.eraseIdx_set_eq] at h1
  exact h1.symm

/-- number k, turned into another -/
theorem Sep.at {B : Nat} {w : World} {l : List Asn} (k : Nat) {A : Asn} (hk : l[k]? = some A) (h : Sep B w l) : ∃ F : Nat → Prop, A.on F w ∧ (∀ i, F i → B ≤ i ∧ i < w.heap.size) ∧
    ∀ {A' : Asn} {F' : Nat → Prop} {w' : World}, A'.on F' w' → Chg F w w' → (∀ i, F' i → (F i ∨ w.heap.size ≤ i) ∧ i < w'.heap.size) → Sep B w' (l.set k A') := by
  obtain ⟨F, h1, h2, h3⟩ := (h.front k hk).open
  exact ⟨F, h1, h2, fun k1 k2 k3 => (h3 k1 k2 k3).back k (List.getElem?_eq_some_iff.1 hk).1⟩

theorem Sep.get {B : Nat} {w : World} {l : List Asn} (k : Nat) {A : Asn} (hk : l[k]? = some A) (h : Sep B w l) : ∃ F : Nat → Prop, A.on F w ∧ (∀ i, F i → B ≤ i ∧ i < w.heap.size) := by
  obtain ⟨F, h1, h2, _⟩ := h.at k hk
  exact ⟨F, h1, h2⟩

theorem Sep.comm {B : Nat} {w : World} {l l' R : List Asn} (h : Sep B w (l ++ (l' ++ R))) : Sep B w (l' ++ (l ++ R)) := by
  refine h.perm ?_
  rw [← List.append_assoc, ← List.append_assoc]
  exact List.perm_append_comm.append_right R
theorem Sep.swap {B : Nat} {w : World} {A C : Asn} {R : List Asn} (h : Sep B w (A :: C :: R)) : Sep B w (C :: A :: R) := h.perm (.swap _ _ _)

/-! groups -/

def exA {α : Type} (φ : α → Prop) (Φ : α → List Asn) : Asn where
  on F w := ∃ x, φ x ∧ SepR F w (Φ x)
  loc := fun ⟨x, h1, h2⟩ h => ⟨x, h1, h2.loc h⟩
  grow := fun ⟨x, h1, h2⟩ h => ⟨x, h1, h2.mono h⟩

theorem Sep.unfold {B : Nat} {w : World} {α : Type} {φ : α → Prop} {Φ : α → List Asn} {R : List Asn} (h : Sep B w (exA φ Φ :: R)) : ∃ x, φ x ∧ Sep B w (Φ x ++ R) := by
  obtain ⟨F, h1, ⟨x, hx, h2⟩, h3⟩ := h.sep
  exact ⟨x, hx, h.le, SepR.join h1 h2 h3⟩
theorem Sep.fold {B : Nat} {w : World} {α : Type} {φ : α → Prop} {Φ : α → List Asn} {R : List Asn} (x : α) (hx : φ x) (h : Sep B w (Φ x ++ R)) : Sep B w (exA φ Φ :: R) := by
  obtain ⟨F, h1, h2, h3⟩ := h.sep.append
  exact ⟨h.le, F, h1, ⟨x, hx, h2⟩, h3⟩

/-! boxes -/

def boxA (p : Addr) (cs : List Value) : Asn where
  on F w := F p.block ∧ (∀ (j : Nat) (u : Value), cs[j]? = some u → w.cell? (p.add j) = some u) ∧ (∀ j, j < cs.length → w.frozen? (p.add j) = false)
  loc := fun ⟨h1, h2, h3⟩ h => ⟨h1, fun j u hu => by rw [World.cell?_of_block (a := p.add j) (h (p.add j).block (by rw [add_block]; exact h1))]; exact h2 j u hu, fun j hj => by rw [World.frozen?_of_block (a := p.add j) (h (p.add j).block (by rw [add_block]; exact h1))]; exact h3 j hj⟩
  grow := fun ⟨h1, h2, h3⟩ h => ⟨h _ h1, h2, h3⟩

theorem boxA.set {F : Nat → Prop} {w : World} {p : Addr} {cs : List Value} (h : (boxA p cs).on F w) {j : Nat} (hj : j < cs.length) (u : Value) :
    Wr w (p.add j) ∧ (boxA p (cs.set j u)).on F (w.setCell (p.add j) u) := by
  obtain ⟨h1, h2, h3⟩ := h
  have hc := h2 j _ (List.getElem?_eq_getElem hj)
  refine ⟨⟨⟨_, hc⟩, h3 j hj⟩, h1, fun i v hv => ?_, fun i hi => by rw [World.frozen?_setCell]; exact h3 i (by simpa using hi)⟩
  rw [List.getElem?_set] at hv
  by_cases hij : j = i
  · subst hij
    rw [if_pos rfl, if_pos hj] at hv
    obtain rfl := Option.some.inj hv
    exact World.cell?_setCell_same w _ _ hc
  · rw [if_neg hij] at hv
    rw [World.cell?_setCell_other w _ _ _ fun he => hij (add_inj he)]
    exact h2 i v hv

/-- number k is a box: its cells; and it is written -/
theorem Sep.cell {B : Nat} {w : World} {l : List Asn} (k : Nat) {p : Addr} {cs : List Value} (hk : l[k]? = some (boxA p cs)) (h : Sep B w l) (j : Nat) {u : Value} (hj : cs[j]? = some u) : w.cell? (p.add j) = some u := by
  obtain ⟨F, ⟨_, h2, _⟩, _⟩ := h.get k hk
  exact h2 j u hj
theorem Sep.cell0 {B : Nat} {w : World} {l : List Asn} (k : Nat) {p : Addr} {cs : List Value} (hk : l[k]? = some (boxA p cs)) (h : Sep B w l) {u : Value} (hj : cs[0]? = some u) : w.cell? p = some u := by
  have := h.cell k hk 0 hj
  rwa [add_zero] at this
theorem Sep.wr {B : Nat} {w : World} {l : List Asn} (k : Nat) {p : Addr} {cs : List Value} (hk : l[k]? = some (boxA p cs)) (h : Sep B w l) {j : Nat} (hj : j < cs.length) : Wr w (p.add j) := by
  obtain ⟨F, hb, _⟩ := h.get k hk
  exact (boxA.set hb hj undef).1
theorem Sep.wr0 {B : Nat} {w : World} {l : List Asn} (k : Nat) {p : Addr} {cs : List Value} (hk : l[k]? = some (boxA p cs)) (h : Sep B w l) (hj : 0 < cs.length) : Wr w p := by
  have := h.wr k hk hj
  rwa [add_zero] at this
theorem Sep.set {B : Nat} {w : World} {l : List Asn} (k : Nat) {p : Addr} {cs : List Value} (hk : l[k]? = some (boxA p cs)) (h : Sep B w l) {j : Nat} (hj : j < cs.length) (u : Value) :
    Sep B (w.setCell (p.add j) u) (l.set k (boxA p (cs.set j u))) ∧ Below B w (w.setCell (p.add j) u) := by
  obtain ⟨F, hb, hF, back⟩ := h.at k hk
  have h1 := (boxA.set hb hj u).2
  have h2 : Chg F w (w.setCell (p.add j) u) := Chg.setCell w u (by rw [add_block]; exact hb.1)
  exact ⟨back h1 h2 fun i hi => ⟨.inl hi, Nat.lt_of_lt_of_le (hF i hi).2 h2.size⟩, h2.below (fun i hi => (hF i hi).1) h.le⟩
theorem Sep.set0 {B : Nat} {w : World} {l : List Asn} (k : Nat) {p : Addr} {cs : List Value} (hk : l[k]? = some (boxA p cs)) (h : Sep B w l) (hj : 0 < cs.length) (u : Value) :
    Sep B (w.setCell p u) (l.set k (boxA p (cs.set 0 u))) ∧ Below B w (w.setCell p u) := by
  have := h.set k hk hj u
  rwa [add_zero] at this

/-- a new box -/
theorem Sep.box {B : Nat} {w : World} {R : List Asn} (h : Sep B w R) (cs : List Value) (T : TypeId) : Sep B (w.alloc (.cells cs.toArray T)) (boxA (newA w) cs :: R) ∧ Below B w (w.alloc (.cells cs.toArray T)) := by
  have hb := below_alloc w (.cells cs.toArray T)
  refine ⟨h.new (F := fun i => i = w.heap.size) ⟨newA_block w, fun j u hu => by rw [cell_new]; simpa using hu, fun j hj => (wr_new w _ T (by simpa using hj)).2⟩ (fun i hi => by subst hi; rw [size_alloc]; omega) hb, hb.mono h.le⟩

/-! rows -/

def rowA (e : TypeId) (size : Nat) (s : Sl) (n : Nat) (vs : List Value) : Asn where
  on F w := w.ownsRow 0 e size (.slice s.a s.len s.cap) n vs ∧ ∀ q, s.a = some q → F q.block
  loc := fun ⟨h1, h2⟩ h => ⟨by
    obtain ⟨k1, k2⟩ := h1
    refine ⟨k1, ?_⟩
    rcases k2 with k2 | ⟨g, cap, cur, hv, hg, hh, r⟩
    · exact .inl k2
    · refine .inr ⟨g, cap, cur, hv, hg, ?_, r⟩
      simp only [Value.slice.injEq] at hv
      rw [h g (h2 _ hv.1)]; exact hh, h2⟩
  grow := fun ⟨h1, h2⟩ h => ⟨h1, fun q hq => h _ (h2 q hq)⟩

theorem rowA.len {F : Nat → Prop} {w : World} {e : TypeId} {size : Nat} {s : Sl} {n : Nat} {vs : List Value} (h : (rowA e size s n vs).on F w) : s.len = n ∧ vs.length = n * size := by
  refine ⟨?_, h.1.1⟩
  rcases h.1.2 with ⟨h1, h0⟩ | ⟨g, cap, cur, h1, _⟩
  · simp only [Value.slice.injEq] at h1; omega
  · simp only [Value.slice.injEq] at h1; exact h1.2.1

theorem rowA.cell {F : Nat → Prop} {w : World} {e : TypeId} {size : Nat} {s : Sl} {n : Nat} {vs : List Value} (h : (rowA e size s n vs).on F w) {j : Nat} (hj : j < vs.length) :
    ∃ q, s.a = some q ∧ q = ⟨q.block, 0, none⟩ ∧ (∀ (i : Nat) (u : Value), vs[i]? = some u → w.cell? (q.add i) = some u) ∧ q.block < w.heap.size := by
  rcases h.1.2 with ⟨h1, h0⟩ | ⟨g, cap, cur, h1, hB, hg, r⟩
  · have := h.1.1; rw [h0, Nat.zero_mul] at this; omega
  · have hb : (Value.slice s.a s.len s.cap).ownBlock = some g := by rw [h1]; rfl
    simp only [Value.slice.injEq] at h1
    refine ⟨_, h1.1, rfl, fun i u hu => World.ownsRow.cells h.1 hb i u hu, ?_⟩
    exact (Array.getElem?_eq_some_iff.1 hg).1

theorem rowA.set {F : Nat → Prop} {w : World} {e : TypeId} {size : Nat} {s : Sl} {n : Nat} {vs : List Value} (h : (rowA e size s n vs).on F w) {q : Addr} (hq : s.a = some q) {j : Nat} (hj : j < vs.length) (u : Value) :
    Wr w (q.add j) ∧ (rowA e size s n (vs.set j u)).on F (w.setCell (q.add j) u) := by
  obtain ⟨h1, h2⟩ := own_set h.1 hq hj u
  exact ⟨h1, h2, h.2⟩

theorem Sep.rowLen {B : Nat} {w : World} {l : List Asn} (k : Nat) {e : TypeId} {size : Nat} {s : Sl} {n : Nat} {vs : List Value} (hk : l[k]? = some (rowA e size s n vs)) (h : Sep B w l) : s.len = n ∧ vs.length = n * size := by
  obtain ⟨F, h1, _⟩ := h.get k hk
  exact rowA.len h1
theorem Sep.rowCell {B : Nat} {w : World} {l : List Asn} (k : Nat) {e : TypeId} {size : Nat} {s : Sl} {n : Nat} {vs : List Value} (hk : l[k]? = some (rowA e size s n vs)) (h : Sep B w l) {j : Nat} (hj : j < vs.length) :
    ∃ q, s.a = some q ∧ (∀ (i : Nat) (u : Value), vs[i]? = some u → w.cell? (q.add i) = some u) := by
  obtain ⟨F, h1, _⟩ := h.get k hk
  obtain ⟨q, h2, _, h3, _⟩ := rowA.cell h1 hj
  exact ⟨q, h2, h3⟩
theorem Sep.rowWr {B : Nat} {w : World} {l : List Asn} (k : Nat) {e : TypeId} {size : Nat} {s : Sl} {n : Nat} {vs : List Value} (hk : l[k]? = some (rowA e size s n vs)) (h : Sep B w l) {q : Addr} (hq : s.a = some q) {j : Nat} (hj : j < vs.length) : Wr w (q.add j) := by
  obtain ⟨F, h1, _⟩ := h.get k hk
  exact (rowA.set h1 hq hj undef).1
theorem Sep.rowSet {B : Nat} {w : World} {l : List Asn} (k : Nat) {e : TypeId} {size : Nat} {s : Sl} {n : Nat} {vs : List Value} (hk : l[k]? = some (rowA e size s n vs)) (h : Sep B w l) {q : Addr} (hq : s.a = some q) {j : Nat} (hj : j < vs.length) (u : Value) :
    Sep B (w.setCell (q.add j) u) (l.set k (rowA e size s n (vs.set j u))) ∧ Below B w (w.setCell (q.add j) u) := by
  obtain ⟨F, hb, hF, back⟩ := h.at k hk
  have h1 := (rowA.set hb hq hj u).2
  have h2 : Chg F w (w.setCell (q.add j) u) := Chg.setCell w u (by rw [add_block]; exact hb.2 q hq)
  exact ⟨back h1 h2 fun i hi => ⟨.inl hi, Nat.lt_of_lt_of_le (hF i hi).2 h2.size⟩, h2.below (fun i hi => (hF i hi).1) h.le⟩

theorem Sep.rowNil {B : Nat} {w : World} {R : List Asn} (h : Sep B w R) (e : TypeId) (size : Nat) : Sep B w (rowA e size ⟨none, 0, 0⟩ 0 [] :: R) :=
  h.new (F := fun _ => False) ⟨World.ownsRow_nil _ _ _ _, fun q hq => by cases hq⟩ (fun _ h => h.elim) (Below.refl _ _)

/-- elements behind a row -/
theorem Sep.append {P : Program} {t ty e : TypeId} {i : TypeInfo} {z : Value} {size bytes : Nat} (ht : P.underlying t = some (.slice e)) (hi : P.info? e = some i) (hz : i.zero = some z) (hsize : i.size = size) (hby : i.bytes = bytes)
    (hzs : z.cells.size = size) (hsz : 0 < size) {B : Nat} {w : World} {l : List Asn} (k : Nat) {s : Sl} {n : Nat} {vs : List Value} (hk : l[k]? = some (rowA e size s n vs)) (h : Sep B w l) {a : Addr} {m c : Nat} {news : List Value} (hl : news.length = m * size)
    (hnews : ∀ j u, news[j]? = some u → w.cell? (a.add j) = some u) (ho : ∀ u ∈ news, u.oneCell' = true) (hm : n + m ≤ maxLen) (hb : (n + m) * bytes ≤ 140737488355328) (hnm : 0 < n + m) :
    ∃ s' : Sl, ∃ w', (builtin .append #[t, t] ty #[] #[.slice s.a s.len s.cap, .slice (some a) m c]).run P w = .ok (.value (.slice s'.a s'.len s'.cap)) w' ∧ s'.len = n + m ∧
      Sep B w' (l.set k (rowA e size s' (n + m) (vs ++ news))) ∧ Below B w w' := by
  obtain ⟨F, hr, hF, back⟩ := h.at k hk
  obtain ⟨s', w', hrun, hlen, hown, hg, hat⟩ := append_at (ty := ty) ht hi hz hsize hby hzs hsz hr.1 hl hnews ho hm hb hnm
  have hc : Chg F w w' := Chg.of_grown hg fun g hgr => by
    cases ha : s.a with
    | none => rw [ha] at hgr; simp [Value.ownBlock] at hgr
    | some q => rw [ha] at hgr; simp [Value.ownBlock] at hgr; subst hgr; exact hr.2 q ha
  refine ⟨s', w', hrun, hlen, ?_, hc.below (fun i hi => (hF i hi).1) h.le⟩
  have hin : ∀ q, s'.a = some q → q.block < w'.heap.size := fun q hq => (hown.lt q.block (by rw [hq]; rfl)).2
  refine back (F' := fun i => (F i ∨ w.heap.size ≤ i) ∧ i < w'.heap.size) ⟨hown, fun q hq => ⟨?_, hin q hq⟩⟩ hc fun i hi => hi
  rcases hat q hq with ⟨q', hq', he⟩ | he
  · rw [he]; exact .inl (hr.2 q' hq')
  · rw [he]; exact .inr (Nat.le_refl _)

/-- a row that a call has made -/
theorem Sep.row {B : Nat} {w w' : World} {R : List Asn} {e : TypeId} {size : Nat} {s : Sl} {n : Nat} {vs : List Value} (h : Sep B w R) (ho : w'.ownsRow w.heap.size e size (.slice s.a s.len s.cap) n vs) (hb : Below w.heap.size w w') : Sep B w' (rowA e size s n vs :: R) := by
  refine h.new (F := fun i => ∃ q, s.a = some q ∧ q.block = i) ⟨?_, fun q hq => ⟨q, hq, rfl⟩⟩ (fun i ⟨q, hq, he⟩ => ?_) hb
  · obtain ⟨h1, h2⟩ := ho
    refine ⟨h1, ?_⟩
    rcases h2 with h2 | ⟨g, cap, cur, hv, hg, r⟩
    · exact .inl h2
    · exact .inr ⟨g, cap, cur, hv, Nat.zero_le _, r⟩
  · have := ho.lt q.block (by rw [hq]; rfl)
    rw [← he]; exact this

/-! numbers that are read alone -/

def intsA (k : IntKind) (s : Sl) (xs : List Int) : Asn where
  on F w := Ints k w s xs ∧ ∀ p, s.a = some p → xs ≠ [] → F p.block
  loc := fun ⟨h1, h2⟩ h => ⟨⟨h1.len, h1.small, fun i x hx => by
    obtain ⟨p, hp, hlt, hc⟩ := h1.cell i x hx
    have hF := h2 p hp (by intro hh; rw [hh] at hx; simp at hx)
    have hc' := World.cell?_of_block (a := p.add i) (h (p.add i).block (by rw [add_block]; exact hF))
    rw [hc] at hc'
    refine ⟨p, hp, ?_, hc'⟩
    have := World.block_lt_of_cell? _ _ hc'
    rwa [add_block] at this⟩, h2⟩
  grow := fun ⟨h1, h2⟩ h => ⟨h1, fun p hp hx => h _ (h2 p hp hx)⟩

/-- many of them, which may have blocks in common -/
def intsAll (k : IntKind) (L : List (Sl × List Int)) : Asn where
  on F w := ∀ x ∈ L, (intsA k x.1 x.2).on F w
  loc := fun h1 h x hx => (intsA k x.1 x.2).loc (h1 x hx) h
  grow := fun h1 h x hx => (intsA k x.1 x.2).grow (h1 x hx) h

theorem Sep.intsAt {B : Nat} {w : World} {l : List Asn} (n : Nat) {k : IntKind} {L : List (Sl × List Int)} (hk : l[n]? = some (intsAll k L)) (h : Sep B w l) {x : Sl × List Int} (hx : x ∈ L) : Ints k w x.1 x.2 := by
  obtain ⟨F, h1, _⟩ := h.get n hk
  exact (h1 x hx).1
theorem Sep.intsNil {B : Nat} {w : World} {R : List Asn} (h : Sep B w R) (k : IntKind) : Sep B w (intsAll k [] :: R) :=
  h.new (F := fun _ => False) (fun x hx => by cases hx) (fun _ h => h.elim) (Below.refl _ _)
/-- one more, that a call has made -/
theorem Sep.intsMore {B : Nat} {w w' : World} {l : List Asn} (n : Nat) {k : IntKind} {L : List (Sl × List Int)} (hk : l[n]? = some (intsAll k L)) (h : Sep B w l) {e : TypeId} {s : Sl} {xs : List Int} (ho : OwnI w.heap.size e k w' s xs) (hx : xs.length ≤ 9223372036854775807) (hb : Below w.heap.size w w') :
    Sep B w' (l.set n (intsAll k ((s, xs) :: L))) := by
  obtain ⟨F, h1, hF, back⟩ := h.at n hk
  have hI := ho.ints hx
  refine back (F' := fun i => (F i ∨ w.heap.size ≤ i) ∧ i < w'.heap.size) (fun x hx => ?_) (Chg.of_below hb) fun i hi => hi
  rcases List.mem_cons.1 hx with rfl | hx
  · exact ⟨hI, fun p hp _ => ⟨.inr (ho.own p hp).1, (ho.own p hp).2⟩⟩
  · refine (intsA k x.1 x.2).grow ((intsA k x.1 x.2).loc (h1 x hx) fun i hi => hb.block i (hF i hi).2) fun i hi => ⟨.inl hi, Nat.lt_of_lt_of_le (hF i hi).2 hb.size⟩
theorem Sep.intsLess {B : Nat} {w : World} {l : List Asn} (n : Nat) {k : IntKind} {L L' : List (Sl × List Int)} (hk : l[n]? = some (intsAll k L)) (h : Sep B w l) (hL : ∀ x ∈ L', x ∈ L) : Sep B w (l.set n (intsAll k L')) := by
  obtain ⟨F, h1, hF, back⟩ := h.at n hk
  exact back (fun x hx => h1 x (hL x hx)) (Chg.refl _ _) fun i hi => ⟨.inl hi, (hF i hi).2⟩

end Go.Lf
