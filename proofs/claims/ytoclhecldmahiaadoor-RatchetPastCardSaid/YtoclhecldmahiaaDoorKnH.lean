/-
  Know: the tables while they are made.
-/
import Derived.Test.YtoclhecldmahiaaDoorKnA
import Derived.Test.YtoclhecldmahiaaDoorAtA
import Derived.Test.YtoclhecldmahiaaDoorNkFns
import Derived.Test.YtoclhecldmahiaaDoorLiftB
set_option linter.unusedVariables false
set_option linter.unusedVariables false
set_option linter.unusedSimpArgs false
namespace Go.Proofs.YtoclhecldmahiaaDoor
open Go.Lf Go.RowKit

/-! many rows, each of the call's own -/

def rowsL (l : List (Sl × List Int)) : List Asn := l.map fun p => ownA p.1 p.2
def rowsA (l : List (Sl × List Int)) : Asn := exA (fun _ : Unit => True) fun _ => rowsL l

theorem rows_more {B : Nat} {w : World} {R : List Asn} {l : List (Sl × List Int)} (h : Sep B w (rowsA l :: R)) {x : Nat} {s : Sl} {xs : List Int} (hx : l[x]? = some (s, xs)) (v : Int) (hl : xs.length ≤ 1000000000) :
    ∃ (s' : Sl) (w' : World), (builtin .append #[29, 29] 29 #[] #[.slice s.a s.len s.cap, .slice (some (newA w)) 1 1]).run Tryd.prog (w.alloc (.cells #[.int .i64 v] 3)) = .ok (.value (.slice s'.a s'.len s'.cap)) w' ∧ Sep B w' (rowsA (l.set x (s', xs ++ [v])) :: R) ∧ Below B w w' := by
  obtain ⟨_, _, hS⟩ := h.unfold
  have hS : Sep B w (rowsL l ++ R) := hS
  have hlt := (List.getElem?_eq_some_iff.1 hx).1
  have hk : (rowsL l ++ R)[x]? = some (ownA s xs) := by
    rw [List.getElem?_append_left (by simpa [rowsL] using hlt)]
    simp [rowsL, hx]
  obtain ⟨s', w', hr, h2, hb⟩ := more9 x hk hS v hl
  refine ⟨s', w', hr, Sep.fold () trivial ?_, hb⟩
  rw [List.set_append_left _ _ (by simpa [rowsL] using hlt)] at h2
  show Sep B w' (rowsL (l.set x (s', xs ++ [v])) ++ R)
  unfold rowsL at h2 ⊢
  rw [List.map_set]
  exact h2

theorem rows_nil {B : Nat} {w : World} {R : List Asn} (h : Sep B w R) : ∀ n, Sep B w (rowsL (List.replicate n (⟨none, 0, 0⟩, [])) ++ R)
  | 0 => h
  | n + 1 => by
    have := rows_nil h n
    rw [List.replicate_succ]
    exact Sep.rowNil this 3 1

/-- rows that are read alone from now on -/
theorem rows_read {w : World} : ∀ {l : List (Sl × List Int)} {U : Nat → Prop}, SepR U w (rowsL l) → (∀ p ∈ l, p.2.length ≤ 9223372036854775807) → (intsAll .i64 l).on U w
  | [], _, _, _ => fun x hx => by cases hx
  | p :: l, U, ⟨F, h1, h2, h3⟩, hl => by
    intro x hx
    rcases List.mem_cons.1 hx with rfl | hx
    · refine ⟨?_, fun q hq _ => h1 _ (h2.2 q hq)⟩
      have ho : OwnI 0 3 .i64 w x.1 x.2 := h2.1
      exact ho.ints (hl x (by simp))
    · have := rows_read (l := l) h3 (fun p hp => hl p (by simp [hp])) x hx
      exact (intsA .i64 x.1 x.2).grow this fun i hi => hi.1

theorem rows_all {B : Nat} {w : World} {R : List Asn} {l : List (Sl × List Int)} (h : Sep B w (rowsL l ++ R)) (hl : ∀ p ∈ l, p.2.length ≤ 9223372036854775807) : Sep B w (intsAll .i64 l :: R) := by
  obtain ⟨F, h1, h2, h3⟩ := h.sep.append
  exact ⟨h.le, F, h1, rows_read h2 hl, h3⟩

/-! the tables so far -/

def TabF (n : Nat) (l : List (Sl × List Int)) (f : Nat → List Nat) : Prop := l.length = n ∧ ∀ (y : Nat) (p : Sl × List Int), l[y]? = some p → p.2 = toI (f y)

theorem TabF.nil (n : Nat) : TabF n (List.replicate n (⟨none, 0, 0⟩, [])) fun _ => [] :=
  ⟨by simp, fun y p hp => by
    rw [List.getElem?_replicate] at hp
    split at hp
    · cases hp; rfl
    · cases hp⟩
theorem TabF.cong {n : Nat} {l : List (Sl × List Int)} {f g : Nat → List Nat} (h : TabF n l f) (hg : ∀ y, y < n → f y = g y) : TabF n l g :=
  ⟨h.1, fun y p hp => by rw [← hg y (by have := (List.getElem?_eq_some_iff.1 hp).1; rw [h.1] at this; exact this)]; exact h.2 y p hp⟩
theorem TabF.at {n : Nat} {l : List (Sl × List Int)} {f : Nat → List Nat} (h : TabF n l f) {x : Nat} (hx : x < n) : ∃ s, l[x]? = some (s, toI (f x)) := by
  have hlt : x < l.length := by rw [h.1]; exact hx
  refine ⟨l[x].1, ?_⟩
  rw [List.getElem?_eq_getElem hlt]
  have := h.2 x l[x] (List.getElem?_eq_getElem hlt)
  rw [← this]
theorem TabF.more {n : Nat} {l : List (Sl × List Int)} {f : Nat → List Nat} (h : TabF n l f) {x : Nat} (hx : x < n) (s' : Sl) (i : Nat) : TabF n (l.set x (s', toI (f x) ++ [((i : Nat) : Int)])) fun y => if y = x then f x ++ [i] else f y := by
  refine ⟨by rw [List.length_set]; exact h.1, fun y p hp => ?_⟩
  rw [List.getElem?_set] at hp
  by_cases hxy : x = y
  · subst hxy
    rw [if_pos rfl, if_pos (by rw [h.1]; exact hx)] at hp
    cases hp
    show _ = toI (if x = x then _ else _)
    rw [if_pos rfl, toI_app]; rfl
  · rw [if_neg hxy] at hp
    show _ = toI (if y = x then _ else _)
    rw [if_neg (fun e => hxy e.symm)]
    exact h.2 y p hp

def aboveN (T : List Tm) (n y : Nat) : List Nat := (List.range n).flatMap fun i => ((ar T i).filter fun z => decide (z = y)).map fun _ => i
def aboveJ (T : List Tm) (i j y : Nat) : List Nat := aboveN T i y ++ (((ar T i).take j).filter fun z => decide (z = y)).map fun _ => i
def sealsN (T : List Tm) (n y : Nat) : List Nat := (List.range n).filter fun i => decide (kd T i = 7 ∧ a1 T i = y ∨ kd T i = 6 ∧ a0 T i = y)
def boxesN (T : List Tm) (n y : Nat) : List Nat := (List.range n).filter fun i => decide (kd T i = 7 ∧ a0 T i = y)
def pubsN (T : List Tm) (n y : Nat) : Option Nat := (List.range n).find? fun i => decide (kd T i = 5 ∧ a0 T i = y)
def pubN (T : List Tm) (n y : Nat) : Int := match pubsN T n y with | some p => (p : Int) | none => -1

theorem aboveJ_zero (T : List Tm) (i y : Nat) : aboveJ T i 0 y = aboveN T i y := by simp [aboveJ]
theorem aboveJ_all (T : List Tm) {i j y : Nat} (h : (ar T i).length ≤ j) : aboveJ T i j y = aboveN T (i + 1) y := by
  unfold aboveJ aboveN
  rw [List.take_of_length_le h, List.range_succ, List.flatMap_append]
  simp
theorem aboveJ_succ (T : List Tm) {i j y : Nat} (h : j < (ar T i).length) : aboveJ T i (j + 1) y = if y = (ar T i)[j] then aboveJ T i j (ar T i)[j] ++ [i] else aboveJ T i j y := by
  unfold aboveJ
  rw [List.take_succ_eq_append_getElem h, List.filter_append, List.map_append, ← List.append_assoc]
  by_cases hy : y = (ar T i)[j]
  · rw [if_pos hy]
    subst hy
    simp
  · rw [if_neg hy]
    have : ¬ (ar T i)[j] = y := fun e => hy e.symm
    simp [this]
theorem sealsN_succ (T : List Tm) (n y : Nat) : sealsN T (n + 1) y = if kd T n = 7 ∧ a1 T n = y ∨ kd T n = 6 ∧ a0 T n = y then sealsN T n y ++ [n] else sealsN T n y := by
  unfold sealsN
  rw [List.range_succ, List.filter_append]
  by_cases h : kd T n = 7 ∧ a1 T n = y ∨ kd T n = 6 ∧ a0 T n = y <;> simp [h]
theorem boxesN_succ (T : List Tm) (n y : Nat) : boxesN T (n + 1) y = if kd T n = 7 ∧ a0 T n = y then boxesN T n y ++ [n] else boxesN T n y := by
  unfold boxesN
  rw [List.range_succ, List.filter_append]
  by_cases h : kd T n = 7 ∧ a0 T n = y <;> simp [h]
theorem pubsN_succ (T : List Tm) (n y : Nat) : pubsN T (n + 1) y = match pubsN T n y with | some p => some p | none => if kd T n = 5 ∧ a0 T n = y then some n else none := by
  unfold pubsN
  rw [List.range_succ, List.find?_append]
  cases (List.range n).find? fun i => decide (kd T i = 5 ∧ a0 T i = y) with
  | some p => rfl
  | none =>
    by_cases h : kd T n = 5 ∧ a0 T n = y <;> simp [h]

theorem pubN_succ {T : List Tm} (hT : KT T) {n y : Nat} (hn : n < T.length) : pubN T (n + 1) y = if kd T n = 5 ∧ a0 T n = y then (n : Int) else pubN T n y := by
  unfold pubN
  rw [pubsN_succ]
  cases h : pubsN T n y with
  | some p =>
    simp only
    by_cases h5 : kd T n = 5 ∧ a0 T n = y
    · exfalso
      unfold pubsN at h
      have h1 := List.find?_some h
      have h2 := List.mem_of_find?_eq_some h
      rw [List.mem_range] at h2
      simp only [decide_eq_true_eq] at h1
      have := hT.pub p n (by omega) hn h1.1 h5.1 (by rw [h1.2, h5.2])
      omega
    · rw [if_neg h5]
  | none =>
    simp only
    by_cases h5 : kd T n = 5 ∧ a0 T n = y
    · rw [if_pos h5, if_pos h5]
    · rw [if_neg h5, if_neg h5]

theorem aboveN_len {T : List Tm} (hok : TOk T) (n y : Nat) (hn : n ≤ T.length) : (aboveN T n y).length ≤ 400 * n := by
  unfold aboveN
  induction n with
  | zero => simp
  | succ n ih =>
    rw [List.range_succ, List.flatMap_append, List.length_append]
    have := ih (by omega)
    have h2 := (inside_len hok (i := n) (by omega)).2.2.2
    have h3 := List.length_filter_le (fun z => decide (z = y)) (ar T n)
    simp only [List.flatMap_cons, List.flatMap_nil, List.append_nil, List.length_map]
    omega
theorem aboveJ_len {T : List Tm} (hok : TOk T) (i j y : Nat) (hi : i < T.length) : (aboveJ T i j y).length ≤ 400 * (i + 1) := by
  unfold aboveJ
  have h1 := aboveN_len hok i y (by omega)
  have h2 := (inside_len hok (i := i) hi).2.2.2
  have h3 := List.length_filter_le (fun z => decide (z = y)) ((ar T i).take j)
  rw [List.length_append, List.length_map]
  rw [List.length_take] at h3
  omega
theorem sealsN_len (T : List Tm) (n y : Nat) : (sealsN T n y).length ≤ n := by
  unfold sealsN
  have := List.length_filter_le (fun i => decide (kd T i = 7 ∧ a1 T i = y ∨ kd T i = 6 ∧ a0 T i = y)) (List.range n)
  simpa using this
theorem boxesN_len (T : List Tm) (n y : Nat) : (boxesN T n y).length ≤ n := by
  unfold boxesN
  have := List.length_filter_le (fun i => decide (kd T i = 7 ∧ a0 T i = y)) (List.range n)
  simpa using this

/-- what is known of nothing at all, so far -/
structure KN (T : List Tm) (n : Nat) (st : KS) : Prop where
  kb : KB T.length st
  ki : KI T (fun _ => False) st []
  left : ∀ x, x < n → st.left[x]?.getD 0 = ((ar T x).length : Int)
  none : ∀ x, x < n → kd T x = 2 ∨ (kd T x = 3 ∨ kd T x = 9) ∧ ar T x = [] → st.has x

theorem KN.zero {T : List Tm} : KN T 0 { is := List.replicate T.length false, wait := [], left := List.replicate T.length 0 } := by
  have hno : ∀ i, ¬ KS.has { is := List.replicate T.length false, wait := [], left := List.replicate T.length 0 } i := by
    intro i h
    unfold KS.has at h
    simp only [List.getElem?_replicate] at h
    split at h <;> cases h
  refine ⟨⟨by simp, by simp [ms]⟩, ⟨by simp, by simp, fun i h => absurd h (hno i), fun i => ⟨fun h => absurd h (hno i), fun h => by simp at h⟩, by simp, by simp⟩, fun x hx => by omega, fun x hx => by omega⟩

theorem KN.leftSet {T : List Tm} {n : Nat} {st : KS} (h : KN T n st) (hn : n < T.length) (v : Int) (hv : v = ((ar T n).length : Int)) :
    KB T.length { st with left := st.left.set n v } ∧ KI T (fun _ => False) { st with left := st.left.set n v } [] ∧ (∀ x, x < n + 1 → (st.left.set n v)[x]?.getD 0 = ((ar T x).length : Int)) := by
  refine ⟨⟨h.kb.len, h.kb.few⟩, ⟨h.ki.lenI, by simp [h.ki.lenL], h.ki.sound, h.ki.both, h.ki.nodup, h.ki.apart⟩, fun x hx => ?_⟩
  rw [List.getElem?_set]
  by_cases e : n = x
  · subst e; rw [if_pos rfl, if_pos (by rw [h.ki.lenL]; exact hn), hv]; rfl
  · rw [if_neg e]; exact h.left x (by omega)

theorem KN.kc {T : List Tm} (hok : TOk T) {st : KS} (h : KN T T.length st) : KC T (fun _ => False) st [] := by
  have lk : ∀ x, lack T [] x = (ar T x).length := by intro x; unfold lack; simp
  refine ⟨fun i hi => hi.elim, fun x hx h1 h2 => h.none x hx ?_, fun x hx => by rw [lk]; exact h.left x hx, fun x hx h1 h2 => ?_, fun i hi => (by cases hi), fun i hi => (by cases hi), fun i hi => (by cases hi), fun i hi => (by cases hi), fun i hi => (by cases hi)⟩
  · obtain ⟨_, k1, k2, k3, _⟩ := okAt hok hx
    rw [← ar_len, h2] at k3
    have : least (kd T x) = 0 := by simpa using k3
    have hk : kd T x = 2 ∨ kd T x = 3 ∨ kd T x = 9 := by
      have c : kd T x = 1 ∨ kd T x = 2 ∨ kd T x = 3 ∨ kd T x = 4 ∨ kd T x = 5 ∨ kd T x = 6 ∨ kd T x = 7 ∨ kd T x = 8 ∨ kd T x = 9 := by omega
      rcases c with c | c | c | c | c | c | c | c | c <;> rw [c] at this h1 ⊢ <;> simp [least] at this h1 ⊢
    rcases hk with hk | hk | hk
    · exact .inl hk
    · exact .inr ⟨.inl hk, h2⟩
    · exact .inr ⟨.inr hk, h2⟩
  · rw [lk] at h2
    exact absurd (List.length_eq_zero_iff.1 h2) h1

end Go.Proofs.YtoclhecldmahiaaDoor

/-
  Know: a number more in a table; the new knower.
-/
set_option linter.unusedVariables false
set_option linter.unusedSimpArgs false
namespace Go.Proofs.YtoclhecldmahiaaDoor
open Go.Lf Go.RowKit

def slF (p : Sl × List Int) : Value := slC p.1
abbrev tabA (s : Sl) (n : Nat) (l : List (Sl × List Int)) : Asn := rowA 29 1 s n (l.map slF)

theorem set_erase {α : Type} : ∀ {L : List α} {k : Nat} {A : α}, (L.set k A).eraseIdx k = L.eraseIdx k
  | [], _, _ => rfl
  | x :: r, 0, _ => rfl
  | x :: r, k + 1, A => by simp [set_erase (L := r) (k := k) (A := A)]

theorem tab_app {B : Nat} {w : World} {L : List Asn} (ir ig : Nat) {s : Sl} {n : Nat} {l : List (Sl × List Int)} {f : Nat → List Nat} (hr : L[ir]? = some (tabA s n l)) (hg : L[ig]? = some (rowsA l)) (hlt : ir < ig) (h : Sep B w L) (hl : TabF n l f) {x : Nat} (hx : x < n)
    (hlen : (f x).length ≤ 1000000000) (i : Nat) :
    ∃ (q : Addr) (sx : Sl), s.a = some q ∧ s.len = n ∧ (∀ y, Sep B y (L.eraseIdx ig) → y.cell? (q.add x) = some (.slice sx.a sx.len sx.cap)) ∧ Sep B (w.alloc (.cells #[.int .i64 (i : Int)] 3)) (L.eraseIdx ig) ∧
    ∃ (s' : Sl) (w' : World), (builtin .append #[29, 29] 29 #[] #[.slice sx.a sx.len sx.cap, .slice (some (newA w)) 1 1]).run Tryd.prog (w.alloc (.cells #[.int .i64 (i : Int)] 3)) = .ok (.value (.slice s'.a s'.len s'.cap)) w' ∧ Sep B w' (L.eraseIdx ig) ∧ Wr w' (q.add x) ∧
      ∃ l', TabF n l' (fun y => if y = x then f x ++ [i] else f y) ∧ Sep B (w'.setCell (q.add x) (.slice s'.a s'.len s'.cap)) ((L.set ig (rowsA l')).set ir (tabA s n l')) ∧ Below B w (w'.setCell (q.add x) (.slice s'.a s'.len s'.cap)) := by
  obtain ⟨sx, hsx⟩ := hl.at hx
  have hxl : x < l.length := by rw [hl.1]; exact hx
  obtain ⟨hsl, q, hq, _⟩ := rowAt ir hr h (j := x) (u := slC sx) (by rw [List.getElem?_map, hsx]; rfl)
  have her : ∀ M : List Asn, M[ir]? = some (tabA s n l) → (M.eraseIdx ig)[ir]? = some (tabA s n l) := fun M hM => by rw [List.getElem?_eraseIdx_of_lt hlt]; exact hM
  refine ⟨q, sx, hq, hsl, fun y hy => ?_, (h.keep (below_alloc _ _)).less ig hg, ?_⟩
  · obtain ⟨_, q', hq', hc⟩ := rowAt ir (her L hr) hy (j := x) (u := slC sx) (by rw [List.getElem?_map, hsx]; rfl)
    rw [hq] at hq'
    obtain rfl := Option.some.inj hq'
    exact hc
  · obtain ⟨s', w', hrun, h2, hb⟩ := rows_more (h.front ig hg) hsx (i : Int) (by rw [toI_len]; exact hlen)
    have h3 := Sep.back ig (List.getElem?_eq_some_iff.1 hg).1 h2
    have hr3 : (L.set ig (rowsA (l.set x (s', toI (f x) ++ [((i : Nat) : Int)]))))[ir]? = some (tabA s n l) := by
      rw [List.getElem?_set_ne (by omega)]; exact hr
    have hxm : x < (l.map slF).length := by simpa using hxl
    obtain ⟨h4, hb4⟩ := h3.rowSet ir hr3 hq (j := x) hxm (.slice s'.a s'.len s'.cap)
    refine ⟨s', w', hrun, h2.drop, h3.rowWr ir hr3 hq hxm, l.set x (s', toI (f x) ++ [((i : Nat) : Int)]), hl.more hx s' i, ?_, hb.trans hb4⟩
    have e : (l.map slF).set x (.slice s'.a s'.len s'.cap) = (l.set x (s', toI (f x) ++ [((i : Nat) : Int)])).map slF := by rw [List.map_set]; rfl
    rw [e] at h4
    exact h4

def nkL (k a : Addr) (st : KS) (s : KSl) (N : Nds) (n : Nat) (la lb lk : List (Sl × List Int)) (pv : List Value) (R : List Asn) : List Asn :=
  knL k a st s ++ (arA a N :: tabA s.above n la :: rowA 3 1 s.pubs n pv :: tabA s.boxes n lb :: tabA s.keys n lk :: rowsA la :: rowsA lb :: rowsA lk :: R)

structure NkOk (T : List Tm) (i j : Nat) (la lb lk : List (Sl × List Int)) (pv : List Value) : Prop where
  a : TabF T.length la (aboveJ T i j)
  b : TabF T.length lb (boxesN T i)
  k : TabF T.length lk (sealsN T i)
  p : pv = (List.range T.length).map fun y => .int .i64 (pubN T i y)

theorem numL {l : List Int} {n : Nat} (h : l = List.replicate n 0) : l.length = n := by rw [h]; simp

theorem set_range {n x : Nat} (hx : x < n) (f : Nat → Value) (v : Value) : ((List.range n).map f).set x v = (List.range n).map fun y => if y = x then v else f y := by
  apply List.ext_getElem?
  intro j
  rw [List.getElem?_set]
  simp only [List.length_map, List.length_range, List.getElem?_map]
  by_cases h : x = j
  · subst h; rw [if_pos rfl, if_pos hx, List.getElem?_range hx]; simp
  · rw [if_neg h]
    rcases Nat.lt_or_ge j n with hj | hj
    · rw [List.getElem?_range hj]; simp [show ¬ j = x from fun e => h e.symm]
    · rw [List.getElem?_eq_none (by simpa using hj)]; rfl

end Go.Proofs.YtoclhecldmahiaaDoor

/-
  Know: the new knower: contract.
-/
set_option linter.unusedVariables false
set_option linter.unusedSimpArgs false
namespace Go.Proofs.YtoclhecldmahiaaDoor
open Go.Lf Go.RowKit

theorem KN.next {T : List Tm} {i : Nat} {st st' : KS} (h : KN T i st) (hk : KB T.length st') (hi : KI T (fun _ => False) st' []) (hl : ∀ x, x < i + 1 → st'.left[x]?.getD 0 = ((ar T x).length : Int)) (hm : ∀ j, st.has j → st'.has j)
    (hn : kd T i = 2 ∨ (kd T i = 3 ∨ kd T i = 9) ∧ ar T i = [] → st'.has i) : KN T (i + 1) st' :=
  ⟨hk, hi, hl, fun x hx hc => by
    rcases Nat.lt_or_ge x i with h1 | h1
    · exact hm x (h.none x h1 hc)
    · obtain rfl : x = i := by omega
      exact hn hc⟩

theorem NkOk.next {T : List Tm} {i j : Nat} {la lb lk : List (Sl × List Int)} {pv : List Value} (h : NkOk T i j la lb lk pv) (hj : (ar T i).length ≤ j) : TabF T.length la (aboveJ T (i + 1) 0) :=
  h.a.cong fun y _ => by rw [aboveJ_zero, aboveJ_all T hj]

section
variable {B : Nat} {k a : Addr} {N : Nds} {R : List Asn} {s : KSl} {st : KS} {la lb lk : List (Sl × List Int)} {pv : List Value}

set_option maxRecDepth 100000 in
theorem nk_learn {w w0 : World} {T : List Tm} {i : Nat} {tb : Addr} {cs : List Value} (hT : terms N = T) (hi : i < T.length) (hkb : KB T.length st) (hki : KI T (fun _ => False) st []) (hkn : Kn T (fun _ => False) i)
    (h : Sep B w (boxA tb cs :: nkL k a st s N T.length la lb lk pv R)) (hb : Below B w0 w) {Q : World → Prop}
    (fin : ∀ s' w', Sep B w' (boxA tb cs :: nkL k a (learn1 st i) s' N T.length la lb lk pv R) → (s'.is = s.is ∧ s'.left = s.left ∧ s'.above = s.above ∧ s'.pubs = s.pubs ∧ s'.boxes = s.boxes ∧ s'.keys = s.keys) → Below B w0 w' → Q w') :
    CallsV Tryd.prog n_know_knower_learn #[.pointer (some k), .slice (some (newA w)) 1 1] (w.alloc (.cells #[.int .i64 (i : Int)] 3)) fun v w' => v = .tuple #[] ∧ Q w' := by
  have hb1 := below_alloc w (.cells #[.int .i64 (i : Int)] 3)
  have h1 : Sep B (w.alloc (.cells #[.int .i64 (i : Int)] 3)) (ownA ⟨some (newA w), 1, 1⟩ (toI [i]) :: boxA tb cs :: nkL k a st s N T.length la lb lk pv R) := h.row (made_ints (xs := [(i : Int)]) (by simp [maxLen])) hb1
  have h2 : Sep B (w.alloc (.cells #[.int .i64 (i : Int)] 3)) (knL k a st s ++ ([ownA ⟨some (newA w), 1, 1⟩ (toI [i]), boxA tb cs] ++ (arA a N :: tabA s.above T.length la :: rowA 3 1 s.pubs T.length pv :: tabA s.boxes T.length lb :: tabA s.keys T.length lk :: rowsA la :: rowsA lb :: rowsA lk :: R))) :=
    Sep.comm (l := [ownA ⟨some (newA w), 1, 1⟩ (toI [i]), boxA tb cs]) h1
  have hwl := hkb.wait
  have hfew : T.length ≤ 1048576 := by
    have := (arOk (h.front 5 rfl)).few
    rw [hT] at this; exact this
  refine (learn_spec (xs := [i]) (s := ⟨some (newA w), 1, 1⟩) h2 (by rw [hkb.len]; simpa using hi) (by simp; omega) (fun L w' hs _ => rowInts (xs := toI [i]) 0 rfl (Sep.dropL hs) (by simp [toI]))).mono ?_
  rintro _ w3 ⟨rfl, ⟨sw, h3⟩, hb3⟩
  have h4 := Sep.comm h3
  exact ⟨rfl, fin _ w3 (Sep.drop h4) ⟨rfl, rfl, rfl, rfl, rfl, rfl⟩ ((hb.trans (hb1.mono h.le)).trans hb3)⟩

set_option maxRecDepth 100000 in
theorem nk_kinds {w w0 : World} {T : List Tm} {i : Nat} {tb : Addr} {sx : Sl} {st0 : KS} (hok : TOk T) (hT : terms N = T) (hi : i < T.length) (hx : N[i]? = some (tmAt T (i : Int), sx)) (hkn : KN T i st0)
    (hkb : KB T.length st) (hki : KI T (fun _ => False) st []) (hleft : ∀ x, x < i + 1 → st.left[x]?.getD 0 = ((ar T x).length : Int)) (hsame : ∀ j, st0.has j → st.has j)
    (hta : TabF T.length la (aboveJ T (i + 1) 0)) (htb : TabF T.length lb (boxesN T i)) (htk : TabF T.length lk (sealsN T i)) (hpv : pv = (List.range T.length).map fun y => .int .i64 (pubN T i y))
    (h : Sep B w (boxA tb (tmC (tmAt T (i : Int)) sx) :: nkL k a st s N T.length la lb lk pv R)) (hb : Below B w0 w) {RR : Value → World → Prop} {N1 : Option Addr → Option Addr → Int → Int → World → Prop}
    (fin : ∀ st' s' la' lb' lk' pv' w', KN T (i + 1) st' → NkOk T (i + 1) 0 la' lb' lk' pv' → Sep B w' (nkL k a st' s' N T.length la' lb' lk' pv' R) → Below B w0 w' → N1 (some a) (some k) (T.length : Int) ((i + 1 : Nat) : Int) w') :
    know_newKnower.c3 RR N1 (some a) (some k) (i : Int) tb (T.length : Int) (i : Int) w := by
  have hkt := hok.kt
  obtain ⟨_, k1, k2, k3, k4, k5, _⟩ := okAt hok hi
  have hfew := hok.few
  have hIx : ∀ (L : List Asn) (y : World), Sep B y (L ++ (arA a N :: (tabA s.above T.length la :: rowA 3 1 s.pubs T.length pv :: tabA s.boxes T.length lb :: tabA s.keys T.length lk :: rowsA la :: rowsA lb :: rowsA lk :: R))) → Ints .i64 y sx (tmAt T (i : Int)).args := fun L y hs => (arArgs (arFind hs) hx).1
  have hlen : sx.len = (tmAt T (i : Int)).args.length := (arArgs (h.front 5 rfl) hx).1.len
  have harl := ar_len T i
  have argAt : ∀ {R' : List Asn} (L : List Asn) (y : World) (j : Nat), Sep B y (L ++ (arA a N :: R')) → j < (tmAt T (i : Int)).args.length → ∃ q, sx.a = some q ∧ y.cell? (q.add j) = some (.int .i64 (((ar T i)[j]?.getD 0 : Nat) : Int)) := by
    intro R' L y j hs hj
    obtain ⟨q, hq, hc⟩ := ((arArgs (arFind hs) hx).1).get (i := (j : Int)) (by omega) (by show ((j : Nat) : Int) < ((sx.len : Nat) : Int); omega)
    rw [Int.toNat_natCast] at hc
    exact ⟨q, hq, by rw [hc, (arg_n hok hi hj).1]⟩
  have inc1 : IntKind.i64.wrap ((i : Int) + 1) = ((i + 1 : Nat) : Int) := inc (by omega)
  -- what stays
  have bN : kd T i ≠ 7 → TabF T.length lb (boxesN T (i + 1)) := fun hk => htb.cong fun y _ => by rw [boxesN_succ, if_neg (fun h => hk h.1)]
  have kN : kd T i ≠ 7 → kd T i ≠ 6 → TabF T.length lk (sealsN T (i + 1)) := fun hk hk' => htk.cong fun y _ => by rw [sealsN_succ, if_neg (fun h => h.elim (fun h => hk h.1) fun h => hk' h.1)]
  have pN : kd T i ≠ 5 → pv = (List.range T.length).map fun y => .int .i64 (pubN T (i + 1) y) := fun hk => by
    rw [hpv]
    refine List.map_congr_left fun y hy => ?_
    rw [pubN_succ hkt hi, if_neg (fun h => hk h.1)]
  have knN : ¬ (kd T i = 2 ∨ (kd T i = 3 ∨ kd T i = 9) ∧ ar T i = []) → KN T (i + 1) st := fun hk => hkn.next hkb hki hleft hsame fun h => absurd h hk
  have knL' : kd T i ≠ 1 → ar T i = [] → KN T (i + 1) (learn1 st i) ∧ Kn T (fun _ => False) i := fun h1 h0 => by
    have hk : Kn T (fun _ => False) i := .made hi h1 fun x hx => by rw [h0] at hx; cases hx
    obtain ⟨q1, q2, q3⟩ := learn1_spec hki hi hk
    exact ⟨hkn.next (learn1_kb hkb hi) q1 (fun x hx => by rw [q3]; exact hleft x hx) (fun j hj => (q2 j).2 (.inl (hsame j hj))) fun _ => (q2 i).2 (.inr rfl), hk⟩
  unfold know_newKnower.c3
  refine ⟨_, h.cell0 0 rfl rfl, cond_e (fun h5 => ?_) fun h5 => ?_⟩
  · -- a Pub
    have h5 : kd T i = 5 := h5
    have l1 : 1 ≤ (tmAt T (i : Int)).args.length := by rw [h5] at k3; exact k3
    have hd := h.drew
    obtain ⟨g1, g2⟩ := arg_n hok hi (j := 0) (by omega)
    have ha0 : a0 T i < i := g2
    obtain ⟨q0, hq0, _⟩ := argAt (boxA tb (tmC (tmAt T (i : Int)) sx) :: knL k a st s) _ 0 hd (by omega)
    obtain ⟨hpl, qp, hqp, _⟩ := rowAt 7 rfl hd (j := a0 T i) (u := .int .i64 (pubN T i (a0 T i))) (by rw [hpv, List.getElem?_map, List.getElem?_range (by omega)]; rfl)
    have hpvl : a0 T i < pv.length := by rw [hpv]; simp; omega
    refine ⟨fun y => Sep B y (boxA tb (tmC (tmAt T (i : Int)) sx) :: nkL k a st s N T.length la lb lk pv R), hd, k, rfl, _, _, _, fun y hy => hy.cell 1 rfl 5 rfl, _, _, _, fun y hy => hy.cell 0 rfl 2 rfl, by omega, by omega, q0, hq0, ((a0 T i : Nat) : Int), fun y hy => ?_, by omega, by omega, qp, hqp, ?_, ?_⟩
    · obtain ⟨q, hq, hc⟩ := argAt (boxA tb (tmC (tmAt T (i : Int)) sx) :: knL k a st s) y 0 hy (by omega)
      rw [hq0] at hq
      obtain rfl := Option.some.inj hq
      exact hc
    · rw [Int.toNat_natCast]; exact hd.rowWr 7 rfl hqp hpvl
    · rw [Int.toNat_natCast]
      intro w3
      obtain ⟨h3, hb3⟩ := hd.rowSet 7 rfl hqp (j := a0 T i) hpvl (.int .i64 (i : Int))
      rw [inc1]
      refine fin st s la lb lk _ w3 (knN (by rw [h5]; simp)) ⟨hta, bN (by rw [h5]; decide), kN (by rw [h5]; decide) (by rw [h5]; decide), ?_⟩ h3.drop ((hb.trans ((Same.drew w).below B)).trans hb3)
      rw [hpv, set_range (by omega)]
      refine List.map_congr_left fun y hy => ?_
      rw [pubN_succ hkt hi]
      by_cases hy : y = a0 T i
      · rw [if_pos hy, if_pos ⟨h5, hy.symm⟩]
      · rw [if_neg hy, if_neg (fun h => hy h.2.symm)]
  have h5 : kd T i ≠ 5 := h5
  refine cond_e (fun h7 => ?_) fun h7 => ?_
  · -- a Box
    have h7 : kd T i = 7 := h7
    have l2 : 2 ≤ (tmAt T (i : Int)).args.length := by rw [h7] at k3; exact k3
    have hd := h.drew
    obtain ⟨g1, g2⟩ := arg_n hok hi (j := 0) (by omega)
    obtain ⟨g3, g4⟩ := arg_n hok hi (j := 1) (by omega)
    have ha0 : a0 T i < i := g2
    have ha1 : a1 T i < i := g4
    have hbl := boxesN_len T i (a0 T i)
    have hkl := sealsN_len T i (a1 T i)
    obtain ⟨q0, hq0, _⟩ := argAt (boxA tb (tmC (tmAt T (i : Int)) sx) :: knL k a st s) _ 0 hd (by omega)
    obtain ⟨qt, st1, hqt, hsl, hcell, hw4, s', w', hrun, hw5, hwr, lb', htb', h6, hb6⟩ := tab_app (L := boxA tb (tmC (tmAt T (i : Int)) sx) :: nkL k a st s N T.length la lb lk pv R) 8 11 rfl rfl (by omega) hd htb (x := a0 T i) (by omega) (by omega) i
    have arg0 : ∀ y, Sep B y ((boxA tb (tmC (tmAt T (i : Int)) sx) :: nkL k a st s N T.length la lb lk pv R).eraseIdx 11) → y.cell? (q0.add (0 : Int).toNat) = some (.int .i64 ((a0 T i : Nat) : Int)) := by
      intro y hy
      obtain ⟨q, hq, hc⟩ := argAt (boxA tb (tmC (tmAt T (i : Int)) sx) :: knL k a st s) y 0 hy (by omega)
      rw [hq0] at hq
      obtain rfl := Option.some.inj hq
      exact hc
    refine ⟨fun y => Sep B y ((boxA tb (tmC (tmAt T (i : Int)) sx) :: nkL k a st s N T.length la lb lk pv R).eraseIdx 11), hd.less 11 rfl, k, rfl, _, _, _, fun y hy => hy.cell 1 rfl 6 rfl, _, _, _, fun y hy => hy.cell 0 rfl 2 rfl, by omega, by omega, q0, hq0, ((a0 T i : Nat) : Int), arg0,
      k, rfl, _, _, _, fun y hy => hy.cell 1 rfl 6 rfl, _, _, _, fun y hy => hy.cell 0 rfl 2 rfl, by omega, by omega, q0, hq0, ((a0 T i : Nat) : Int), arg0, by omega, by omega, qt, hqt, st1.a, st1.len, st1.cap, fun y hy => by rw [Int.toNat_natCast]; exact hcell y hy, ?_⟩
    intro w4
    refine ⟨hw4, _, _, _, _, hrun, hw5, by omega, by omega, qt, hqt, by rw [Int.toNat_natCast]; exact hwr, ?_⟩
    rw [Int.toNat_natCast]
    intro w6
    have h6 : Sep B w6 (boxA tb (tmC (tmAt T (i : Int)) sx) :: nkL k a st s N T.length la lb' lk pv R) := h6
    have hb6 : Below B w w6 := ((Same.drew w).below B).trans hb6
    clear_value w6
    have hd := h6.drew
    obtain ⟨qu, st2, hqu, hsl2, hcell2, hw7, s2, w2, hrun2, hw8, hwr2, lk', htk', h9, hb9⟩ := tab_app (L := boxA tb (tmC (tmAt T (i : Int)) sx) :: nkL k a st s N T.length la lb' lk pv R) 9 12 rfl rfl (by omega) hd htk (x := a1 T i) (by omega) (by omega) i
    have arg1 : ∀ y, Sep B y ((boxA tb (tmC (tmAt T (i : Int)) sx) :: nkL k a st s N T.length la lb' lk pv R).eraseIdx 12) → y.cell? (q0.add (1 : Int).toNat) = some (.int .i64 ((a1 T i : Nat) : Int)) := by
      intro y hy
      obtain ⟨q, hq, hc⟩ := argAt (boxA tb (tmC (tmAt T (i : Int)) sx) :: knL k a st s) y 1 hy (by omega)
      rw [hq0] at hq
      obtain rfl := Option.some.inj hq
      exact hc
    refine ⟨fun y => Sep B y ((boxA tb (tmC (tmAt T (i : Int)) sx) :: nkL k a st s N T.length la lb' lk pv R).eraseIdx 12), hd.less 12 rfl, k, rfl, _, _, _, fun y hy => hy.cell 1 rfl 7 rfl, _, _, _, fun y hy => hy.cell 0 rfl 2 rfl, by omega, by omega, q0, hq0, ((a1 T i : Nat) : Int), arg1,
      k, rfl, _, _, _, fun y hy => hy.cell 1 rfl 7 rfl, _, _, _, fun y hy => hy.cell 0 rfl 2 rfl, by omega, by omega, q0, hq0, ((a1 T i : Nat) : Int), arg1, by omega, by omega, qu, hqu, st2.a, st2.len, st2.cap, fun y hy => by rw [Int.toNat_natCast]; exact hcell2 y hy, ?_⟩
    intro w7
    refine ⟨hw7, _, _, _, _, hrun2, hw8, by omega, by omega, qu, hqu, by rw [Int.toNat_natCast]; exact hwr2, ?_⟩
    rw [Int.toNat_natCast]
    intro w9
    have h9 : Sep B w9 (boxA tb (tmC (tmAt T (i : Int)) sx) :: nkL k a st s N T.length la lb' lk' pv R) := h9
    rw [inc1]
    refine fin st s la lb' lk' pv w9 (knN (by rw [h7]; simp)) ⟨hta, htb'.cong fun y _ => ?_, htk'.cong fun y _ => ?_, pN h5⟩ h9.drop (((hb.trans hb6).trans ((Same.drew w6).below B)).trans hb9)
    · rw [boxesN_succ]
      by_cases hy : y = a0 T i
      · rw [if_pos hy, if_pos ⟨h7, hy.symm⟩, hy]
      · rw [if_neg hy, if_neg (fun h => hy h.2.symm)]
    · rw [sealsN_succ]
      by_cases hy : y = a1 T i
      · rw [if_pos hy, if_pos (.inl ⟨h7, hy.symm⟩), hy]
      · rw [if_neg hy, if_neg]
        rintro (h | h)
        · exact hy h.2.symm
        · rw [h7] at h; exact absurd h.1 (by decide)
  have h7 : kd T i ≠ 7 := h7
  refine cond_e (fun h6 => ?_) fun h6 => ?_
  · -- a Seal
    have h6 : kd T i = 6 := h6
    have l1 : 1 ≤ (tmAt T (i : Int)).args.length := by rw [h6] at k3; exact k3
    have hd := h.drew
    obtain ⟨g1, g2⟩ := arg_n hok hi (j := 0) (by omega)
    have ha0 : a0 T i < i := g2
    have hkl := sealsN_len T i (a0 T i)
    obtain ⟨q0, hq0, _⟩ := argAt (boxA tb (tmC (tmAt T (i : Int)) sx) :: knL k a st s) _ 0 hd (by omega)
    obtain ⟨qu, st2, hqu, hsl2, hcell2, hw7, s2, w2, hrun2, hw8, hwr2, lk', htk', h9, hb9⟩ := tab_app (L := boxA tb (tmC (tmAt T (i : Int)) sx) :: nkL k a st s N T.length la lb lk pv R) 9 12 rfl rfl (by omega) hd htk (x := a0 T i) (by omega) (by omega) i
    have arg0 : ∀ y, Sep B y ((boxA tb (tmC (tmAt T (i : Int)) sx) :: nkL k a st s N T.length la lb lk pv R).eraseIdx 12) → y.cell? (q0.add (0 : Int).toNat) = some (.int .i64 ((a0 T i : Nat) : Int)) := by
      intro y hy
      obtain ⟨q, hq, hc⟩ := argAt (boxA tb (tmC (tmAt T (i : Int)) sx) :: knL k a st s) y 0 hy (by omega)
      rw [hq0] at hq
      obtain rfl := Option.some.inj hq
      exact hc
    refine ⟨fun y => Sep B y ((boxA tb (tmC (tmAt T (i : Int)) sx) :: nkL k a st s N T.length la lb lk pv R).eraseIdx 12), hd.less 12 rfl, k, rfl, _, _, _, fun y hy => hy.cell 1 rfl 7 rfl, _, _, _, fun y hy => hy.cell 0 rfl 2 rfl, by omega, by omega, q0, hq0, ((a0 T i : Nat) : Int), arg0,
      k, rfl, _, _, _, fun y hy => hy.cell 1 rfl 7 rfl, _, _, _, fun y hy => hy.cell 0 rfl 2 rfl, by omega, by omega, q0, hq0, ((a0 T i : Nat) : Int), arg0, by omega, by omega, qu, hqu, st2.a, st2.len, st2.cap, fun y hy => by rw [Int.toNat_natCast]; exact hcell2 y hy, ?_⟩
    intro w7
    refine ⟨hw7, _, _, _, _, hrun2, hw8, by omega, by omega, qu, hqu, by rw [Int.toNat_natCast]; exact hwr2, ?_⟩
    rw [Int.toNat_natCast]
    intro w9
    have h9 : Sep B w9 (boxA tb (tmC (tmAt T (i : Int)) sx) :: nkL k a st s N T.length la lb lk' pv R) := h9
    rw [inc1]
    refine fin st s la lb lk' pv w9 (knN (by rw [h6]; simp)) ⟨hta, bN h7, htk'.cong fun y _ => ?_, pN h5⟩ h9.drop ((hb.trans ((Same.drew w).below B)).trans hb9)
    rw [sealsN_succ]
    by_cases hy : y = a0 T i
    · rw [if_pos hy, if_pos (.inr ⟨h6, hy.symm⟩), hy]
    · rw [if_neg hy, if_neg]
      rintro (h | h)
      · exact h7 h.1
      · exact hy h.2.symm
  have h6 : kd T i ≠ 6 := h6
  have stay : ∀ st' s' w', KN T (i + 1) st' → (s'.is = s.is ∧ s'.left = s.left ∧ s'.above = s.above ∧ s'.pubs = s.pubs ∧ s'.boxes = s.boxes ∧ s'.keys = s.keys) → Sep B w' (boxA tb (tmC (tmAt T (i : Int)) sx) :: nkL k a st' s' N T.length la lb lk pv R) → Below B w0 w' → N1 (some a) (some k) (T.length : Int) ((i + 1 : Nat) : Int) w' :=
    fun st' s' w' h1 _ h2 h3 => fin st' s' la lb lk pv w' h1 ⟨hta, bN h7, kN h7 h6, pN h5⟩ h2.drop h3
  refine cond_e (fun h2 => ?_) fun h2 => ?_
  · -- a Word
    have h2 : kd T i = 2 := h2
    have hz : ar T i = [] := by
      rw [h2] at k4
      have : mostOf 2 = 0 := rfl
      exact List.length_eq_zero_iff.1 (by omega)
    obtain ⟨e1, e2⟩ := knL' (by rw [h2]; decide) hz
    intro w13
    rw [inc1]
    exact nk_learn hT hi hkb hki e2 h hb fun s' w' hs hsl hb' => stay _ s' w' e1 hsl hs hb'
  have h2 : kd T i ≠ 2 := h2
  have c2 : ∀ b : Bool, b = decide (kd T i = 3 ∨ kd T i = 9) → know_newKnower.c2 RR N1 (some a) (some k) (i : Int) tb (T.length : Int) (i : Int) b w := by
    intro b hbe
    unfold know_newKnower.c2
    rw [inc1]
    refine cond_c (fun ht => ?_) fun hf => ?_
    · have h39 : kd T i = 3 ∨ kd T i = 9 := of_decide_eq_true (by rw [← hbe]; exact ht)
      refine ⟨_, _, _, h.cell 0 rfl 2 rfl, cond_e (fun h0 => ?_) fun h0 => ?_⟩
      · have hz : ar T i = [] := List.length_eq_zero_iff.1 (by omega)
        obtain ⟨e1, e2⟩ := knL' (by rcases h39 with h39 | h39 <;> rw [h39] <;> decide) hz
        intro w1
        exact nk_learn hT hi hkb hki e2 h hb fun s' w' hs hsl hb' => stay _ s' w' e1 hsl hs hb'
      · refine stay st s w (knN ?_) ⟨rfl, rfl, rfl, rfl, rfl, rfl⟩ h hb
        rintro (hc | ⟨_, hc⟩)
        · exact h2 hc
        · rw [hc] at harl
          exact h0 (by rw [hlen, ← harl]; rfl)
    · have h39 : ¬ (kd T i = 3 ∨ kd T i = 9) := of_decide_eq_false (by rw [← hbe]; exact hf)
      refine stay st s w (knN ?_) ⟨rfl, rfl, rfl, rfl, rfl, rfl⟩ h hb
      rintro (hc | ⟨hc, _⟩)
      · exact h2 hc
      · exact h39 hc
  refine cond_e (fun h3 => c2 _ ?_) fun h3 => c2 _ ?_
  · show decide _ = _
    rw [decide_eq_decide]
    exact ⟨fun h => .inl h, fun _ => h3⟩
  · show decide _ = _
    rw [decide_eq_decide]
    exact ⟨fun h => .inr h, fun h => h.resolve_left h3⟩
end

end Go.Proofs.YtoclhecldmahiaaDoor

/-
  Know: the new knower: contract, the whole.
-/
set_option linter.unusedVariables false
set_option linter.unusedSimpArgs false
namespace Go.Proofs.YtoclhecldmahiaaDoor
open Go.Lf Go.RowKit

theorem row_cast {B : Nat} {w : World} {R : List Asn} {e : TypeId} {s s' : Sl} {n n' : Nat} {vs vs' : List Value} (h : Sep B w (rowA e 1 s n vs :: R)) (hs : s = s') (hn : n = n') (hv : vs = vs') : Sep B w (rowA e 1 s' n' vs' :: R) := by subst hs hn hv; exact h

theorem rows3 {B : Nat} {w : World} {X R : List Asn} {la lb lk : List (Sl × List Int)} (h : Sep B w (X ++ (rowsA la :: rowsA lb :: rowsA lk :: R))) (h1 : ∀ p ∈ la, p.2.length ≤ 9223372036854775807) (h2 : ∀ p ∈ lb, p.2.length ≤ 9223372036854775807) (h3 : ∀ p ∈ lk, p.2.length ≤ 9223372036854775807) :
    Sep B w (X ++ (intsAll .i64 (la ++ (lb ++ lk)) :: R)) := by
  have g1 := Sep.comm (l := X) (l' := [rowsA la, rowsA lb, rowsA lk]) h
  obtain ⟨_, _, g2⟩ := Sep.unfold (R := rowsA lb :: rowsA lk :: (X ++ R)) g1
  have g3 := Sep.comm (l := rowsL la) (l' := [rowsA lb, rowsA lk]) g2
  obtain ⟨_, _, g4⟩ := Sep.unfold (R := rowsA lk :: (rowsL la ++ (X ++ R))) g3
  have g5 := Sep.comm (l := rowsL lb) (l' := [rowsA lk]) g4
  obtain ⟨_, _, g6⟩ := Sep.unfold (R := rowsL lb ++ (rowsL la ++ (X ++ R))) g5
  have g7 := Sep.comm (l := rowsL lk) (l' := rowsL lb) g6
  rw [← List.append_assoc] at g7
  have g8 := Sep.comm g7
  rw [← List.append_assoc] at g8
  have e : rowsL la ++ (rowsL lb ++ rowsL lk) = rowsL (la ++ (lb ++ lk)) := by simp [rowsL]
  rw [e] at g8
  have g9 := rows_all g8 fun p hp => by
    rw [List.mem_append, List.mem_append] at hp
    rcases hp with hp | hp | hp
    · exact h1 p hp
    · exact h2 p hp
    · exact h3 p hp
  exact Sep.comm (l := [intsAll .i64 (la ++ (lb ++ lk))]) g9

set_option maxRecDepth 100000 in
theorem newKnower_spec {B : Nat} {w : World} {a : Addr} {N : Nds} {R : List Asn} (h : Sep B w (arA a N :: R)) :
    CallsV Tryd.prog n_know_newKnower #[.pointer (some a)] w fun v w' => ∃ (k : Addr) (st : KS) (ks : KSl) (t : Tabs) (L0 : List (Sl × List Int)), v = .pointer (some k) ∧ TabOk (terms N) t L0 ∧ KB (terms N).length st ∧ KI (terms N) (fun _ => False) st [] ∧ KC (terms N) (fun _ => False) st [] ∧
      Sep B w' (knL k a st ks ++ (arA a N :: (tabL (terms N) ks t L0 ++ R))) ∧ Below B w w' := by
  refine know_newKnower.lift ?_
  unfold know_newKnower.main
  have hok := arOk h
  have hkt := hok.kt
  have hfew := hok.few
  obtain ⟨xa, ca, hca⟩ := arLen h
  obtain ⟨T, hT⟩ : ∃ T, T = terms N := ⟨_, rfl⟩
  rw [← hT] at hok hkt hfew hca ⊢
  refine (len_spec hca).mono ?_
  rintro _ _ ⟨rfl, rfl⟩
  refine ⟨_, rfl, ?_⟩
  generalize hRR : (fun (v : Value) (w' : World) => ∃ (k : Addr) (st : KS) (ks : KSl) (t : Tabs) (L0 : List (Sl × List Int)), v = .pointer (some k) ∧ TabOk T t L0 ∧ KB T.length st ∧ KI T (fun _ => False) st [] ∧ KC T (fun _ => False) st [] ∧
      Sep B w' (knL k a st ks ++ (arA a N :: (tabL T ks t L0 ++ R))) ∧ Below B w w') = RR
  unfold know_newKnower.p7
  refine MkP.rows (all := [2, 4, 6, 8, 10, 12]) (B := B) (R := arA a N :: R) (w0 := w) (by decide) (fun i hi => ?_) (by rw [Int.toNat_natCast]; unfold maxLen; omega) (fun A w1 h1 hb1 => ?_) 6 _ [] _ _ rfl (List.Perm.refl _) h.drew ((Same.drew w).below B)
  · simp only [List.mem_cons, List.not_mem_nil, or_false] at hi
    rcases hi with rfl | rfl | rfl | rfl | rfl | rfl <;> exact ⟨rfl, rfl, by unfold MkS.may; simp only [know_newKnower.mks]; omega⟩
  intro w2
  have hrow : ∀ i, mkRow know_newKnower.mks ((T.length : Nat) : Int) A i = rowA (know_newKnower.mks i).e 1 ⟨some (A i), T.length, T.length⟩ T.length (List.replicate T.length (know_newKnower.mks i).z) := fun i => by unfold mkRow; rw [Int.toNat_natCast]
  simp only [List.map_cons, List.map_nil, hrow] at h1
  obtain ⟨h2, hb2⟩ := h1.box [.pointer (some a), .slice (some (A 2)) T.length T.length, .slice none 0 0, .slice (some (A 4)) T.length T.length, .slice (some (A 6)) T.length T.length, .slice (some (A 8)) T.length T.length, .slice (some (A 10)) T.length T.length, .slice (some (A 12)) T.length T.length] 180
  have hB2 : Below B w w2 := hb1.trans hb2
  obtain ⟨k, hk⟩ : ∃ k, k = newA w1 := ⟨_, rfl⟩
  rw [← hk] at h2 ⊢
  -- the rows of the tables
  have hn := TabF.nil T.length
  have h3 := h2.rowNil 3 1
  have g1 : Sep B w2 (rowsA (List.replicate T.length (⟨none, 0, 0⟩, [])) :: _) := Sep.fold (Φ := fun _ => rowsL (List.replicate T.length (⟨none, 0, 0⟩, []))) () trivial (rows_nil h3 T.length)
  have g2 : Sep B w2 (rowsA (List.replicate T.length (⟨none, 0, 0⟩, [])) :: _) := Sep.fold (Φ := fun _ => rowsL (List.replicate T.length (⟨none, 0, 0⟩, []))) () trivial (rows_nil g1 T.length)
  have g3 : Sep B w2 (rowsA (List.replicate T.length (⟨none, 0, 0⟩, [])) :: _) := Sep.fold (Φ := fun _ => rowsL (List.replicate T.length (⟨none, 0, 0⟩, []))) () trivial (rows_nil g2 T.length)
  have g4 := g3.front 10 rfl
  have g5 := g4.front 10 rfl
  have g6 := g5.front 10 rfl
  have g7 := g6.front 10 rfl
  have g8 := g7.front 11 rfl
  have g9 := g8.front 11 rfl
  have g10 := g9.front 9 rfl
  have g11 := g10.front 11 rfl
  have g12 := g11.front 11 rfl
  obtain ⟨la0, hla0⟩ : ∃ l : List (Sl × List Int), l = List.replicate T.length (⟨none, 0, 0⟩, []) := ⟨_, rfl⟩
  have hsl : la0.map slF = List.replicate T.length (.slice none 0 0) := by rw [hla0, List.map_replicate]; rfl
  obtain ⟨s0, hs0⟩ : ∃ s : KSl, s = ⟨⟨some (A 2), T.length, T.length⟩, ⟨none, 0, 0⟩, ⟨some (A 4), T.length, T.length⟩, ⟨some (A 6), T.length, T.length⟩, ⟨some (A 8), T.length, T.length⟩, ⟨some (A 10), T.length, T.length⟩, ⟨some (A 12), T.length, T.length⟩⟩ := ⟨_, rfl⟩
  have h4 : Sep B w2 (nkL k a { is := List.replicate T.length false, wait := [], left := List.replicate T.length 0 } s0 N T.length la0 la0 la0 (List.replicate T.length (.int .i64 0)) R) := by
    unfold nkL knL tabA boolA ownA
    rw [hsl]
    subst hs0
    simp only [List.length_replicate, List.map_replicate, toI, List.map_nil, List.length_nil]
    rw [hla0]
    exact g12
  clear g1 g2 g3 g4 g5 g6 g7 g8 g9 g10 g11 g12 h2 h3
  rw [← hla0] at hn
  have hgoal : know_newKnower.l6 RR (some a) (T.length : Int) (some k) (T.length : Int) 0 w2 := by
    clear_value w2
    unfold know_newKnower.l6
    refine ⟨fun t w' => ∃ j : Nat, t = j ∧ j ≤ T.length ∧ Sep B w' (nkL k a { is := List.replicate T.length false, wait := [], left := List.replicate T.length 0 } s0 N T.length la0 la0 la0 ((List.range T.length).map fun y => .int .i64 (if y < j then -1 else 0)) R) ∧ Below B w w', fun t _ => T.length - t.toNat, ⟨0, rfl, Nat.zero_le _, ?_, hB2⟩, ?_⟩
    · have e : ((List.range T.length).map fun y => Value.int .i64 (if y < 0 then -1 else 0)) = List.replicate T.length (.int .i64 0) := by
        apply List.ext_getElem?
        intro j
        rw [List.getElem?_map, List.getElem?_replicate]
        rcases Nat.lt_or_ge j T.length with hj | hj
        · rw [List.getElem?_range hj, if_pos hj]; rfl
        · rw [List.getElem?_eq_none (by simpa using hj), if_neg (by omega)]; rfl
      rw [e]; exact h4
    · rintro _ w3 ⟨j, rfl, hj, h5, hB5⟩
      unfold know_newKnower.b6
      have hpl := (h5.rowLen 6 rfl).1
      refine cond_d (p := ((j : Nat) : Int) < ((T.length : Nat) : Int)) (fun hlt => ?_) fun hge => ?_
      · have hj' : j < T.length := by omega
        have hvl : j < ((List.range T.length).map fun y => Value.int .i64 (if y < j then -1 else 0)).length := by simpa using hj'
        obtain ⟨_, q, hq, _⟩ := rowAt 6 rfl h5 (j := j) (u := .int .i64 0) (by rw [List.getElem?_map, List.getElem?_range hj']; simp)
        refine ⟨k, rfl, _, _, _, h5.cell 0 rfl 5 rfl, by omega, ?_, q, hq, by rw [Int.toNat_natCast]; exact h5.rowWr 6 rfl hq hvl, ?_⟩
        · show ((j : Nat) : Int) < ((s0.pubs.len : Nat) : Int); omega
        · rw [Int.toNat_natCast, inc (by omega)]
          intro w4
          obtain ⟨h6, hb6⟩ := h5.rowSet 6 rfl hq (j := j) hvl (.int .i64 (-1))
          refine ⟨⟨rfl, rfl, rfl, rfl, j + 1, rfl, by omega, ?_, hB5.trans hb6⟩, by (try dsimp only); omega⟩
          rw [set_range hj'] at h6
          have e : ((List.range T.length).map fun y => if y = j then Value.int .i64 (-1) else Value.int .i64 (if y < j then -1 else 0)) = (List.range T.length).map fun y => Value.int .i64 (if y < j + 1 then -1 else 0) := by
            refine List.map_congr_left fun y _ => ?_
            by_cases h1 : y = j
            · rw [if_pos h1, if_pos (by omega)]
            · rw [if_neg h1]
              by_cases h2 : y < j
              · rw [if_pos h2, if_pos (by omega)]
              · rw [if_neg h2, if_neg (by omega)]
          rw [← e]
          exact h6
      · have hjn : j = T.length := by omega
        subst hjn
        unfold know_newKnower.c5 know_newKnower.l1
        refine ⟨fun t w' => ∃ i : Nat, t = i ∧ i ≤ T.length ∧ ∃ st s la lb lk pv, KN T i st ∧ NkOk T i 0 la lb lk pv ∧ Sep B w' (nkL k a st s N T.length la lb lk pv R) ∧ Below B w w', fun t _ => T.length - t.toNat,
          ⟨0, rfl, Nat.zero_le _, _, s0, la0, la0, la0, _, KN.zero, ⟨hn.cong fun y _ => by simp [aboveJ, aboveN], hn.cong fun y _ => by simp [boxesN], hn.cong fun y _ => by simp [sealsN], ?_⟩, h5, hB5⟩, ?_⟩
        · refine List.map_congr_left fun y hy => ?_
          rw [List.mem_range] at hy
          rw [if_pos hy]; rfl
        · rintro _ w4 ⟨i, rfl, hi, st, s, la, lb, lk, pv, hkn, hnk, h6, hB6⟩
          unfold know_newKnower.b1
          refine cond_d (p := ((i : Nat) : Int) < ((T.length : Nat) : Int)) (fun hlt => ?_) fun hge => ?_
          · have hi' : i < T.length := by omega
            have hiN : i < (terms N).length := by rw [← hT]; exact hi'
            obtain ⟨sx, hx⟩ := node_at hiN
            rw [← hT] at hx
            refine (at_spec (arFind (L := knL k a st s) h6) hx (by omega)).mono ?_
            rintro _ w5 ⟨rfl, hb5⟩
            refine ⟨_, _, _, _, _, rfl, ?_⟩
            intro w6
            obtain ⟨r6, h7, b7⟩ := Sep.tmp3 (h6.keep hb5) 98 (.int .i64 0) (.int .i64 0) (.slice none 0 0) (.int .i64 (tmAt T (i : Int)).kind) (.int .i64 (tmAt T (i : Int)).n) (.slice sx.a sx.len sx.cap)
            refine ⟨r6, ?_⟩
            intro w7
            have h7 : Sep B w7 (boxA (newA w5) (tmC (tmAt T (i : Int)) sx) :: nkL k a st s N T.length la lb lk pv R) := h7
            have hB7 : Below B w w7 := (hB6.trans (hb5.mono h6.le)).trans b7
            clear_value w7
            generalize newA w5 = tb at h7 ⊢
            have h8 := h7.drew
            have hll : s.left.len = st.left.length := (h8.rowLen 4 rfl).1
            have hlT := hkn.ki.lenL
            have hlen : sx.len = (tmAt T (i : Int)).args.length := (arArgs (h7.front 5 rfl) hx).1.len
            have harl := ar_len T i
            have hil := (inside_len hok hi').2.2.2
            obtain ⟨ql, hql, _⟩ := h8.rowCell 4 rfl (j := i) (by rw [List.length_map]; omega)
            refine ⟨fun y => Sep B y (boxA tb (tmC (tmAt T (i : Int)) sx) :: nkL k a st s N T.length la lb lk pv R), h8, k, rfl, _, _, _, fun y hy => hy.cell 1 rfl 3 rfl, _, _, _, fun y hy => hy.cell 0 rfl 2 rfl, by omega, by omega, ql, hql, by rw [Int.toNat_natCast]; exact h8.rowWr 4 rfl hql (by rw [List.length_map]; omega), ?_⟩
            rw [Int.toNat_natCast]
            obtain ⟨h9, hb9⟩ := h8.rowSet 4 rfl hql (j := i) (by rw [List.length_map]; omega) (.int .i64 ((sx.len : Nat) : Int))
            intro w9
            have h9 : Sep B w9 (boxA tb (tmC (tmAt T (i : Int)) sx) :: nkL k a { st with left := st.left.set i ((sx.len : Nat) : Int) } s N T.length la lb lk pv R) := by
              have e : (st.left.map (Value.int .i64)).set i (.int .i64 ((sx.len : Nat) : Int)) = (st.left.set i ((sx.len : Nat) : Int)).map (Value.int .i64) := by rw [List.map_set]
              rw [e] at h9
              have e2 : st.left.length = (st.left.set i ((sx.len : Nat) : Int)).length := by simp
              unfold nkL knL
              show Sep B w9 (_ :: _ :: _ :: _ :: rowA 3 1 s.left (st.left.set i ((sx.len : Nat) : Int)).length ((st.left.set i ((sx.len : Nat) : Int)).map (Value.int .i64)) :: _)
              rw [← e2]
              exact h9
            have hB9 : Below B w w9 := (hB7.trans ((Same.drew w7).below B)).trans hb9
            clear_value w9
            obtain ⟨e1, e2, e3⟩ := hkn.leftSet hi' ((sx.len : Nat) : Int) (by rw [harl, ← hlen])
            generalize hst2 : ({ st with left := st.left.set i ((sx.len : Nat) : Int) } : KS) = st2 at h9 e1 e2
            have e3 : ∀ x, x < i + 1 → st2.left[x]?.getD 0 = ((ar T x).length : Int) := by rw [← hst2]; exact e3
            have esame : ∀ j, st.has j → st2.has j := by rw [← hst2]; exact fun j hj => hj
            refine ⟨_, _, _, h9.cell 0 rfl 2 rfl, ?_⟩
            unfold know_newKnower.l4
            refine ⟨fun t w' => ∃ j : Nat, t = j ∧ j ≤ (ar T i).length ∧ ∃ la, TabF T.length la (aboveJ T i j) ∧ Sep B w' (boxA tb (tmC (tmAt T (i : Int)) sx) :: nkL k a st2 s N T.length la lb lk pv R) ∧ Below B w w', fun t _ => (ar T i).length - t.toNat,
              ⟨0, rfl, Nat.zero_le _, la, hnk.a, h9, hB9⟩, ?_⟩
            rintro _ w10 ⟨j, rfl, hj, la', hta, h10, hB10⟩
            unfold know_newKnower.b4
            refine cond_d (p := ((j : Nat) : Int) < ((sx.len : Nat) : Int)) (fun hjl => ?_) fun hjl => ?_
            · have hj' : j < (ar T i).length := by omega
              have hxj : (ar T i)[j] < i := hkt.down i hi' _ (List.getElem_mem hj')
              obtain ⟨g1, _⟩ := arg_n hok hi' (j := j) (by omega)
              rw [List.getElem?_eq_getElem hj', Option.getD_some] at g1
              obtain ⟨qx, hqx, hcx⟩ := ((arArgs (h10.front 5 rfl) hx).1).get (i := (j : Int)) (by omega) (by show ((j : Nat) : Int) < ((sx.len : Nat) : Int); omega)
              have hcx : w10.cell? (qx.add (j : Int).toNat) = some (.int .i64 (((ar T i)[j] : Nat) : Int)) := by rw [hcx, Int.toNat_natCast]; exact congrArg (fun z => some (Value.int .i64 z)) g1
              have hjl2 := aboveJ_len hok i j (ar T i)[j] hi'
              have hd := h10.drew
              obtain ⟨qt, st3, hqt, hsl3, hcell, hw15, s', w16, hrun, hw16, hwr, la2, hta2, h17, hb17⟩ := tab_app (L := boxA tb (tmC (tmAt T (i : Int)) sx) :: nkL k a st2 s N T.length la' lb lk pv R) 6 10 rfl rfl (by omega) hd hta (x := (ar T i)[j]) (by omega) (by omega) i
              refine ⟨by omega, by omega, qx, hqx, _, hcx, fun y => Sep B y ((boxA tb (tmC (tmAt T (i : Int)) sx) :: nkL k a st2 s N T.length la' lb lk pv R).eraseIdx 10), hd.less 10 rfl, k, rfl, _, _, _, fun y hy => hy.cell 1 rfl 4 rfl, k, rfl, _, _, _, fun y hy => hy.cell 1 rfl 4 rfl, by omega, by omega, qt, hqt,
                st3.a, st3.len, st3.cap, fun y hy => by rw [Int.toNat_natCast]; exact hcell y hy, ?_⟩
              intro w15
              refine ⟨hw15, _, _, _, _, hrun, hw16, by omega, by omega, qt, hqt, by rw [Int.toNat_natCast]; exact hwr, ?_⟩
              rw [Int.toNat_natCast, inc (by omega)]
              intro w17
              have h17 : Sep B w17 (boxA tb (tmC (tmAt T (i : Int)) sx) :: nkL k a st2 s N T.length la2 lb lk pv R) := h17
              refine ⟨⟨rfl, rfl, rfl, rfl, rfl, rfl, rfl, rfl, j + 1, rfl, by omega, la2, hta2.cong fun y _ => ?_, h17, (hB10.trans ((Same.drew w10).below B)).trans hb17⟩, by (try dsimp only); omega⟩
              rw [aboveJ_succ T hj']
            · refine nk_kinds hok hT.symm hi' hx hkn e1 e2 e3 esame (hta.cong fun y _ => ?_) hnk.b hnk.k hnk.p h10 hB10 fun st' s' la2 lb2 lk2 pv2 w' q1 q2 q3 q4 => ⟨⟨rfl, rfl, rfl, i + 1, rfl, by omega, st', s', la2, lb2, lk2, pv2, q1, q2, q3, q4⟩, by (try dsimp only); omega⟩
              rw [aboveJ_zero, aboveJ_all T (by omega)]
          · have hin : i = T.length := by omega
            subst hin
            rw [← hRR]
            refine ⟨k, st, s, ⟨la.map (·.1), lb.map (·.1), lk.map (·.1)⟩, la ++ (lb ++ lk), rfl, ?_, hkn.kb, hkn.ki, hkn.kc hok, ?_, hB6⟩
            · have inL : ∀ {l : List (Sl × List Int)} {f : Nat → List Nat}, TabF T.length l f → ∀ (y : Nat) (s : Sl), (l.map (·.1))[y]? = some s → (s, toI (f y)) ∈ l := by
                intro l f hl y s hs
                rw [List.getElem?_map, Option.map_eq_some_iff] at hs
                obtain ⟨p, hp, rfl⟩ := hs
                rw [← hl.2 y p hp]
                exact List.mem_of_getElem? hp
              refine ⟨by simp [hnk.a.1], by simp [hnk.b.1], by simp [hnk.k.1], fun y s hs => List.mem_append_left _ ?_, fun y s hs => List.mem_append_right _ (List.mem_append_left _ ?_), fun y s hs => List.mem_append_right _ (List.mem_append_right _ ?_)⟩
              · have := inL hnk.a y s hs
                rw [aboveJ_zero] at this
                exact this
              · exact inL hnk.b y s hs
              · exact inL hnk.k y s hs
            · -- the rows are read alone from now on
              have f1 : ∀ {l : List (Sl × List Int)} {f : Nat → List Nat}, TabF T.length l f → (∀ y, (f y).length ≤ 1000000000) → ∀ p ∈ l, p.2.length ≤ 9223372036854775807 := by
                intro l f hl hf p hp
                obtain ⟨y, hy, he⟩ := List.mem_iff_getElem.1 hp
                have := hl.2 y p (by rw [List.getElem?_eq_getElem hy, he])
                rw [this, toI_len]
                have := hf y
                omega
              have q1 : Sep B w4 ((knL k a st s ++ [arA a N, tabA s.above T.length la, rowA 3 1 s.pubs T.length pv, tabA s.boxes T.length lb, tabA s.keys T.length lk]) ++ (rowsA la :: rowsA lb :: rowsA lk :: R)) := h6
              have q2 := rows3 q1 (f1 hnk.a fun y => by have := aboveN_len hok T.length y (Nat.le_refl _); rw [aboveJ_zero]; omega) (f1 hnk.b fun y => by have := boxesN_len T T.length y; omega) (f1 hnk.k fun y => by have := sealsN_len T T.length y; omega)
              have e1 : ∀ l : List (Sl × List Int), (l.map (·.1)).map slC = l.map slF := fun l => by rw [List.map_map]; rfl
              unfold tabL
              simp only [e1]
              rw [hnk.p] at q2
              exact q2
  exact hgoal

end Go.Proofs.YtoclhecldmahiaaDoor

/-
  Know: All, Is: contracts.
-/
set_option linter.unusedVariables false
set_option linter.unusedSimpArgs false
namespace Go.Proofs.YtoclhecldmahiaaDoor
open Go.Lf Go.RowKit

theorem KI.more {T : List Tm} {S S' : Nat → Prop} {st : KS} {P : List Nat} (h : KI T S st P) (hS : ∀ i, S i → S' i) : KI T S' st P :=
  ⟨h.lenI, h.lenL, fun i hi => (h.sound i hi).more hS, h.both, h.nodup, h.apart⟩

theorem kc_learn {T : List Tm} {st : KS} (hi : KI T (fun _ => False) st []) (hc : KC T (fun _ => False) st []) {xs : List Nat} (hx : ∀ x ∈ xs, x < T.length) :
    KI T (fun i => i ∈ xs) (learnL st xs) [] ∧ KC T (fun i => i ∈ xs) (learnL st xs) [] := by
  have h1 : KI T (fun i => i ∈ xs) st [] := KI.more hi fun i h => h.elim
  obtain ⟨k1, k2, k3⟩ := learnL_spec xs h1 fun x h => ⟨hx x h, .start h⟩
  refine ⟨k1, ⟨fun i h => (k2 i).2 (.inr h), fun x h1 h2 h3 => (k2 x).2 (.inl (hc.none x h1 h2 h3)), fun x h => by rw [k3]; exact hc.left x h, fun x h1 h2 h3 => (k2 x).2 (.inl (hc.made x h1 h2 h3)), fun i hi => (by cases hi), fun i hi => (by cases hi), fun i hi => (by cases hi), fun i hi => (by cases hi), fun i hi => (by cases hi)⟩⟩

theorem toI_nat {T : List Tm} {xs : List Int} (h : ∀ x ∈ xs, inT T x) : toI (xs.map Int.toNat) = xs ∧ ∀ x ∈ xs.map Int.toNat, x < T.length := by
  constructor
  · unfold toI
    rw [List.map_map]
    have : ∀ l : List Int, (∀ x ∈ l, inT T x) → l.map ((fun k => ((k : Nat) : Int)) ∘ Int.toNat) = l := by
      intro l
      induction l with
      | nil => intro _; rfl
      | cons x r ih =>
        intro hl
        have hx := hl x (by simp)
        rw [List.map_cons, ih fun y hy => hl y (by simp [hy])]
        show (((x.toNat : Nat) : Int) :: r) = _
        rw [Int.toNat_of_nonneg hx.1]
    exact this xs h
  · intro x hx
    obtain ⟨y, hy, rfl⟩ := List.mem_map.1 hx
    have := h y hy
    unfold inT at this
    omega
theorem mem_nat {T : List Tm} {xs : List Int} (h : ∀ x ∈ xs, inT T x) (i : Nat) : i ∈ xs.map Int.toNat ↔ (i : Int) ∈ xs := by
  rw [List.mem_map]
  constructor
  · rintro ⟨y, hy, rfl⟩
    have := (h y hy).1
    rw [Int.toNat_of_nonneg this]; exact hy
  · intro hi; exact ⟨_, hi, by simp⟩

section
variable {W w : World} {p : Addr} {T : List Tm} {R : List Asn} {s : Sl} {xs : List Int}

theorem all_at (h : At W w (arT p T :: R)) (hl : xs.length ≤ 1000000) (hI : ∀ L w', At W w' (L ++ R) → Ints .i64 w' s xs) :
    CallsV Tryd.prog n_know_All #[.pointer (some p), .slice s.a s.len s.cap] w fun v w' => ∃ (s' : Sl) (bs : List Bool), v = .tuple #[.slice s'.a s'.len s'.cap, .int .i64 (if ∀ x ∈ xs, inT T x then 0 else 8)] ∧
      At W w' (boolA s' bs :: arT p T :: R) ∧ ((∀ x ∈ xs, inT T x) → bs.length = T.length ∧ ∀ i, bs[i]?.getD false = true ↔ Kn T (fun i => (i : Int) ∈ xs) i) ∧ (¬ (∀ x ∈ xs, inT T x) → s' = ⟨none, 0, 0⟩ ∧ bs = []) := by
  refine know_All.lift ?_
  unfold know_All.main
  refine (has_at h (hI [] w h.drop)).mono ?_
  rintro _ _ ⟨rfl, rfl⟩
  refine ⟨_, rfl, cond_not (fun hf => ?_) fun ht => ?_⟩
  · have hf := of_decide_eq_false hf
    refine ⟨⟨none, 0, 0⟩, [], by rw [if_neg hf], h.go (h.s.rowNil 4 1) (Below.refl _ _), fun h => absurd h hf, fun _ => ⟨rfl, rfl⟩⟩
  · have ht := of_decide_eq_true ht
    obtain ⟨N, rfl, hs⟩ := Sep.arOut h.s
    have hok := arOk hs
    have hfew := hok.few
    refine (newKnower_spec hs).mono ?_
    rintro _ w2 ⟨k, st, ks, t, L0, rfl, htab, hkb, hki, hkc, h2, hb2⟩
    obtain ⟨e1, e2⟩ := toI_nat ht
    refine ⟨_, rfl, (learn_spec (xs := xs.map Int.toNat) (s := s) h2 (by rw [hkb.len]; exact e2) (by have := hkb.wait; rw [List.length_map]; omega) (fun L w' hs' hb' => ?_)).mono ?_⟩
    · rw [e1]
      refine hI (L ++ (arA p N :: tabL (terms N) ks t L0)) w' (h.go ?_ (hb2.trans hb'))
      simpa using hs'
    rintro _ w3 ⟨rfl, ⟨sw, h3⟩, hb3⟩
    obtain ⟨q1, q2⟩ := kc_learn hki hkc e2
    refine ⟨rfl, (follow_spec hok htab (learnL_kb _ hkb e2) q1 q2 h3).mono ?_⟩
    rintro _ w4 ⟨rfl, ⟨bs, hbl, hbs, hc, h4⟩, hb4⟩
    refine ⟨rfl, k, rfl, _, _, _, hc, ks.is, bs, by rw [if_pos ht], h.go (Sep.swap (Sep.arIn h4.swap rfl)) ((hb2.trans hb3).trans hb4), fun _ => ⟨hbl, fun i => ?_⟩, fun hn => absurd ht hn⟩
    rw [hbs i]
    constructor
    · exact Kn.more fun j hj => (mem_nat ht j).1 hj
    · exact Kn.more fun j hj => (mem_nat ht j).2 hj

theorem is_at (i : Int) (h : At W w (arT p T :: R)) (hl : xs.length ≤ 1000000) (hI : ∀ L w', At W w' (L ++ R) → Ints .i64 w' s xs) :
    CallsV Tryd.prog n_know_Is #[.pointer (some p), .slice s.a s.len s.cap, .int .i64 i] w fun v w' => ∃ b : Bool, v = .tuple #[.bool b, .int .i64 (if (∀ x ∈ xs, inT T x) ∧ inT T i then 0 else 8)] ∧ At W w' (arT p T :: R) ∧
      (b = true ↔ (∀ x ∈ xs, inT T x) ∧ inT T i ∧ Kn T (fun i => (i : Int) ∈ xs) i.toNat) := by
  refine know_Is.lift ?_
  unfold know_Is.main
  refine (has_at h (hI [] w h.drop)).mono ?_
  rintro _ _ ⟨rfl, rfl⟩
  refine ⟨_, rfl, cond_not (fun hf => ?_) fun ht => ?_⟩
  · have hf := of_decide_eq_false hf
    refine ⟨false, by rw [if_neg (fun h => hf h.1)], h, by simp; exact fun h => absurd h hf⟩
  · have ht := of_decide_eq_true ht
    intro w3
    refine (has_new [i] h (by simp)).mono ?_
    rintro _ w4 ⟨rfl, h4⟩
    refine ⟨_, rfl, cond_not (fun hf => ?_) fun hi => ?_⟩
    · have hf : ¬ inT T i := by have := of_decide_eq_false hf; simpa using this
      exact ⟨false, by rw [if_neg (fun h => hf h.2)], h4, by simp; exact fun _ h => absurd h hf⟩
    · have hi : inT T i := by have := of_decide_eq_true hi; simpa using this
      unfold know_Is.c1
      refine (all_at h4 hl hI).mono ?_
      rintro _ w5 ⟨s', bs, rfl, h5, hin, _⟩
      obtain ⟨hbl, hbs⟩ := hin ht
      unfold inT at hi
      have hsl : s'.len = bs.length := (h5.s.rowLen 0 rfl).1
      obtain ⟨q, hq, hc⟩ := h5.s.boolAt 0 rfl (j := i.toNat) (by omega)
      rw [if_pos ht]
      refine ⟨_, _, _, _, rfl, cond_t rfl ⟨hi.1, by omega, q, hq, _, hc, bs[i.toNat]?.getD false, by rw [if_pos ⟨ht, hi⟩], h5.drop, ?_⟩⟩
      rw [hbs]
      exact ⟨fun hk => ⟨ht, hi, hk⟩, fun hk => hk.2.2⟩

/-- of new numbers -/
theorem is_new (xs : List Int) (i : Int) (h : At W w (arT p T :: R)) (hl : xs.length ≤ 1000000) :
    CallsV Tryd.prog n_know_Is #[.pointer (some p), .slice (some (newA w)) xs.length xs.length, .int .i64 i] (w.alloc (.cells (xs.map (Value.int .i64)).toArray 3)) fun v w' => ∃ b : Bool, v = .tuple #[.bool b, .int .i64 (if (∀ x ∈ xs, inT T x) ∧ inT T i then 0 else 8)] ∧ At W w' (arT p T :: R) ∧
      (b = true ↔ (∀ x ∈ xs, inT T x) ∧ inT T i ∧ Kn T (fun i => (i : Int) ∈ xs) i.toNat) := by
  refine (is_at (s := ⟨some (newA w), xs.length, xs.length⟩) (xs := xs) i (h.row xs (by omega)).swap hl fun L w' hs => rowNow 0 rfl hs.dropL.s (by omega)).mono ?_
  rintro _ w' ⟨b, rfl, h2, hb⟩
  exact ⟨b, rfl, h2.swap.drop, hb⟩

set_option maxRecDepth 100000 in
theorem wakes11 (h : At W w R) : CallsV Tryd.prog n_trystlaw11_wakes #[] w fun v w' => v = .bool true ∧ At W w' R := by
  refine trystlaw11_wakes.lift ?_
  unfold trystlaw11_wakes.main
  refine (new_at h).mono ?_
  rintro _ w1 ⟨p, rfl, h1⟩
  refine ⟨_, rfl, cond_f' rfl ?_⟩
  refine (mk0 1 1 h1 (by omega)).mono ?_
  rintro _ w2 ⟨rfl, h2⟩
  have p2 : put [] ⟨1, 1, []⟩ = ([⟨1, 1, []⟩], 0, 0) := by decide
  rw [p2] at h2 ⊢
  refine ⟨_, _, rfl, (mk0 1 2 h2 (by omega)).mono ?_⟩
  rintro _ w3 ⟨rfl, h3⟩
  have p3 : put [⟨1, 1, []⟩] ⟨1, 2, []⟩ = ([⟨1, 1, []⟩, ⟨1, 2, []⟩], 1, 0) := by decide
  rw [p3] at h3 ⊢
  refine ⟨_, _, rfl, ?_⟩
  intro w4
  refine (mk 6 0 [0, 1] h3 (by omega) (by simp)).mono ?_
  rintro _ w5 ⟨rfl, h5⟩
  have p5 : put [⟨1, 1, []⟩, ⟨1, 2, []⟩] ⟨6, 0, [0, 1]⟩ = ([⟨1, 1, []⟩, ⟨1, 2, []⟩, ⟨6, 0, [0, 1]⟩], 2, 0) := by decide
  rw [p5] at h5 ⊢
  refine ⟨_, _, rfl, ?_⟩
  intro w6
  refine (is_new [2] 1 h5 (by simp)).mono ?_
  rintro _ w7 ⟨x, rfl, h7, hx⟩
  refine ⟨_, _, rfl, ?_⟩
  intro w8
  refine (is_new [2, 0] 1 h7 (by simp)).mono ?_
  rintro _ w9 ⟨y, rfl, h9, hy⟩
  have t2 : (∀ x ∈ [(2 : Int)], inT [⟨1, 1, []⟩, ⟨1, 2, []⟩, ⟨6, 0, [0, 1]⟩] x) ∧ inT [⟨1, 1, []⟩, ⟨1, 2, []⟩, ⟨6, 0, [0, 1]⟩] 1 := by decide
  have t20 : (∀ x ∈ [(2 : Int), 0], inT [⟨1, 1, []⟩, ⟨1, 2, []⟩, ⟨6, 0, [0, 1]⟩] x) ∧ inT [⟨1, 1, []⟩, ⟨1, 2, []⟩, ⟨6, 0, [0, 1]⟩] 1 := by decide
  rw [if_pos t2, if_pos t20]
  have ex : x = false := by
    cases x with
    | false => rfl
    | true =>
      obtain ⟨_, _, hk⟩ := hx.1 rfl
      exfalso
      have look : ∀ i, i ≤ 2 ∨ kd [⟨1, 1, []⟩, ⟨1, 2, []⟩, ⟨6, 0, [0, 1]⟩] i = 0 := fun i => by
        rcases Nat.lt_or_ge 2 i with h | h
        · exact .inr (kd_out (by simp; omega))
        · exact .inl h
      refine Kn.avoid (fun i => i = 0 ∨ i = 1) ?_ ?_ ?_ ?_ ?_ ?_ 1 hk (.inr rfl)
      · intro i hi
        simp at hi
        omega
      · rintro i _ (rfl | rfl) <;> exact .inl rfl
      · intro i hb hk x hx
        rcases look i with h | h
        · have : i = 0 ∨ i = 1 ∨ i = 2 := by omega
          rcases this with rfl | rfl | rfl
          · exact absurd hk (by decide)
          · exact absurd hk (by decide)
          · exact absurd hk (by decide)
        · rw [h] at hk; exact absurd hk (by decide)
      · intro i hb hk x hx
        rcases look i with h | h
        · have : i = 0 ∨ i = 1 ∨ i = 2 := by omega
          rcases this with rfl | rfl | rfl
          · exact absurd hk (by decide)
          · exact absurd hk (by decide)
          · exact absurd hk (by decide)
        · rw [h] at hk; exact absurd hk (by decide)
      · intro i hb hk ha x hx
        rcases look i with h | h
        · have : i = 0 ∨ i = 1 ∨ i = 2 := by omega
          rcases this with rfl | rfl | rfl
          · exact absurd hk (by decide)
          · exact absurd hk (by decide)
          · exact absurd (.inl rfl) ha
        · rw [h] at hk; exact absurd hk (by decide)
      · intro i hb hk ha x hx
        rcases look i with h | h
        · have : i = 0 ∨ i = 1 ∨ i = 2 := by omega
          rcases this with rfl | rfl | rfl
          · exact absurd hk (by decide)
          · exact absurd hk (by decide)
          · exact absurd hk (by decide)
        · rw [h] at hk; exact absurd hk (by decide)
  have ey : y = true := by
    rw [hy]
    refine ⟨t20.1, t20.2, ?_⟩
    exact Kn.lock (i := 2) (.start (by simp)) (by decide) (.start (by decide)) (by decide)
  subst ex ey
  exact ⟨_, _, rfl, cond_t rfl (cond_t rfl (cond_t rfl ⟨rfl, h9.drop⟩))⟩
end

end Go.Proofs.YtoclhecldmahiaaDoor
