/-
  Rows of the call's own, more: what slices.Clone, make and copy leave; rows whose elements are wider than a cell.
-/
import Derived.Test.YtpihglmgkfecbaaDoorLiftSL
import Derived.Laws.CopyRow
namespace Go.Lf
open Go Go.RowKit Go.ChangeShapes
set_option linter.unusedVariables false

/-- all of a slice behind an empty row that was just made -/
theorem clone_go {P : Program} {t ty e : TypeId} {i : TypeInfo} {z : Value} {size bytes : Nat} (ht : P.underlying t = some (.slice e)) (hi : P.info? e = some i) (hz : i.zero = some z) (hsize : i.size = size) (hby : i.bytes = bytes)
    (hzs : z.cells.size = size) (hsz : 0 < size) {w : World} {a : Addr} {m c : Nat} {news : List Value} (hl : news.length = m * size) (hnews : ∀ j u, news[j]? = some u → w.cell? (a.add j) = some u) (ho : ∀ u ∈ news, u.oneCell' = true)
    (hm : m ≤ maxLen) (hb : m * bytes ≤ 140737488355328) :
    ∃ s' : Sl, ∃ w', (builtin .append #[t, t] ty #[] #[.slice (some (newA w)) 0 0, .slice (some a) m c]).run P (w.alloc (.cells #[] e)) = .ok (.value (.slice s'.a s'.len s'.cap)) w' ∧ s'.len = m ∧
      w'.ownsRow w.heap.size e size (.slice s'.a s'.len s'.cap) m news ∧ Below w.heap.size w w' := by
  have hown : (w.alloc (.cells #[] e)).ownsRow w.heap.size e size (.slice (some (newA w)) 0 0) 0 [] :=
    ⟨by simp, .inr ⟨w.heap.size, 0, #[], rfl, Nat.le_refl _, heap_alloc_new w _, Nat.le_refl _, by unfold maxLen; omega, by simp, by simp⟩⟩
  obtain ⟨v', w', hr, hown', hg, hno, hat⟩ := run_append_own_at (P := P) (w.alloc (.cells #[] e)) w.heap.size t ty e i z size bytes ht hi hz hsize hby hzs hsz _ 0 [] hown a m c news hl (fun j u hu => cell_alloc_old (hnews j u hu)) ho
    (by simpa using hm) (by simpa using hb) (by rw [size_alloc]; omega)
  rw [Nat.zero_add, List.nil_append] at hown'
  have hv : ∃ s' : Sl, v' = .slice s'.a s'.len s'.cap ∧ s'.len = m := by
    rcases hown'.2 with ⟨rfl, h0⟩ | ⟨g, cap, cur, rfl, _⟩
    · exact ⟨⟨none, 0, 0⟩, rfl, h0.symm⟩
    · exact ⟨⟨some ⟨g, 0, none⟩, m, cap⟩, rfl, rfl⟩
  obtain ⟨s', rfl, hlen⟩ := hv
  refine ⟨s', w', by simp [builtin, hr], hlen, hown', (below_alloc w _).grown hg (Nat.le_trans (Nat.le_refl _) (by rw [size_alloc]; omega)) fun k hk => ?_⟩
  simp [Value.ownBlock, newA] at hk
  omega

theorem ints_news {k : IntKind} {w : World} {s : Sl} {xs : List Int} (h : Ints k w s xs) {a : Addr} (ha : s.a = some a) : ∀ (j : Nat) (u : Value), (xs.map (Value.int k))[j]? = some u → w.cell? (a.add j) = some u := by
  intro j u hu
  rw [List.getElem?_map, Option.map_eq_some_iff] at hu
  obtain ⟨x, hx, rfl⟩ := hu
  obtain ⟨p, hp, _, hc⟩ := h.cell j x hx
  rw [ha] at hp
  obtain rfl := Option.some.inj hp
  exact hc

theorem one_ints {k : IntKind} {xs : List Int} : ∀ u ∈ xs.map (Value.int k), u.oneCell' = true := by
  intro u hu; simp at hu; obtain ⟨x, _, rfl⟩ := hu; rfl

/-- slices.Clone of numbers: what is left where the slice is not nil -/
theorem clone_ints {P : Program} {t ty e : TypeId} {i : TypeInfo} {k : IntKind} {bytes : Nat} (ht : P.underlying t = some (.slice e)) (hi : P.info? e = some i) (hz : i.zero = some (.int k 0)) (hsize : i.size = 1) (hby : i.bytes = bytes)
    {w : World} {s : Sl} {xs : List Int} (h : Ints k w s xs) {a : Addr} (ha : s.a = some a) (hm : xs.length ≤ maxLen) (hb : xs.length * bytes ≤ 140737488355328) :
    ∃ s' : Sl, ∃ w', (builtin .append #[t, t] ty #[] #[.slice (some (newA w)) 0 0, .slice s.a s.len s.cap]).run P (w.alloc (.cells #[] e)) = .ok (.value (.slice s'.a s'.len s'.cap)) w' ∧ OwnI w.heap.size e k w' s' xs ∧ Below w.heap.size w w' := by
  rw [ha, h.len]
  obtain ⟨s', w', hr, hl, ho, hb'⟩ := clone_go (ty := ty) (c := s.cap) ht hi hz hsize hby rfl (by omega) (w := w) (m := xs.length) (news := xs.map (Value.int k)) (by simp) (ints_news h ha) one_ints hm hb
  exact ⟨s', w', hr, ho, hb'⟩

/-! the cells that make leaves -/

theorem range_cells {n : Nat} {v : Value} : ((Array.range (n * 1)).map ((#[v] : Array Value)[· % (#[v] : Array Value).size]!)) = (List.replicate n v).toArray := by
  apply Array.ext
  · simp
  · intro i h1 h2
    simp only [Array.getElem_map, Array.getElem_range, List.getElem_toArray, List.getElem_replicate]
    have : i % (#[v] : Array Value).size = 0 := by simp [Nat.mod_one]
    rw [this]; rfl

theorem row_made {w : World} {n : Nat} {e : TypeId} {size : Nat} {cs : List Value} (hl : cs.length = n * size) (hn : n ≤ maxLen) : (w.alloc (.cells cs.toArray e)).ownsRow w.heap.size e size (.slice (some (newA w)) n n) n cs :=
  ⟨hl, .inr ⟨w.heap.size, n, cs.toArray, rfl, Nat.le_refl _, heap_alloc_new w _, Nat.le_refl _, hn, by simpa using hl, by simp [← hl]⟩⟩

theorem make_ints {w : World} {n : Nat} {e : TypeId} {k : IntKind} (hn : n ≤ maxLen) : OwnI w.heap.size e k (w.alloc (.cells ((Array.range (n * 1)).map ((#[.int k 0] : Array Value)[· % (#[.int k 0] : Array Value).size]!)) e)) ⟨some (newA w), n, n⟩ (List.replicate n 0) := by
  rw [range_cells]
  unfold OwnI
  rw [List.length_replicate, List.map_replicate]
  exact row_made (by simp) hn

/-- copy onto numbers of the call's own -/
theorem copy_ints {P : Program} {t t' ty e : TypeId} {k : IntKind} (ht : P.underlying t = some (.slice e)) (hs : (P.info? e).map (·.size) = some 1) {B : Nat} {w : World} {d s : Sl} {ys xs : List Int} (hd : OwnI B e k w d ys) (h : Ints k w s xs) (hy : ys ≠ []) :
    ∃ w', (builtin .copy #[t, t'] ty #[] #[.slice d.a d.len d.cap, .slice s.a s.len s.cap]).run P w = .ok (.value (.int .i64 (min xs.length ys.length : Nat))) w' ∧ OwnI B e k w' d (xs.take ys.length ++ ys.drop xs.length) ∧ w.grownBy w' (Value.slice d.a d.len d.cap).ownBlock ∧ w'.heap.size = w.heap.size := by
  have hlen := h.len
  have hown := hd
  rcases hown.2 with ⟨h1, h0⟩ | ⟨g, cap, cur, h1, hB, hg, hnc, hcm, hcs, htk⟩
  · exact absurd (List.length_eq_zero_iff.1 h0) hy
  simp only [Value.slice.injEq] at h1
  obtain ⟨hda, hdl, hdc⟩ := h1
  have hyl : (ys.map (Value.int k)).length = ys.length := by simp
  by_cases hx : xs = []
  · subst hx
    have h0 : s.len = 0 := by simpa using hlen
    refine ⟨w, ?_, by simpa using hd, ⟨rfl, rfl, rfl, Nat.le_refl _, fun _ _ _ => rfl⟩, rfl⟩
    have := run_copy_none (P := P) w t t' ty e d.a s.a d.len d.cap s.len s.cap ht hs (by rw [h0]; exact Nat.zero_min _)
    simp [builtin, this, goInt]
  · obtain ⟨x, hx0⟩ : ∃ x, xs[0]? = some x := by cases xs with
      | nil => exact absurd rfl hx
      | cons x r => exact ⟨x, rfl⟩
    obtain ⟨a, ha, _, _⟩ := h.cell 0 x hx0
    have hmin : (xs.take ys.length).length = Nat.min s.len d.len := by rw [List.length_take, hlen, hdl]; exact Nat.min_comm _ _
    have hcl : ((xs.take ys.length).map (Value.int k)).length = Nat.min s.len d.len := by rw [List.length_map]; exact hmin
    have hle : (xs.take ys.length).length ≤ ys.length := by rw [List.length_take]; omega
    have hcz : cur.size = cap := by simpa using hcs
    have hrun := run_copy_row (P := P) w t t' ty e g 0 d.len d.cap a s.len s.cap cur e ((xs.take ys.length).map (Value.int k)) ht hs hg hcl
      (fun j u hu => ints_news h ha j u (by rw [List.map_take, List.getElem?_take] at hu; split at hu; exact hu; cases hu)) (by rw [List.length_map]; omega) one_ints
    rw [hda, ha]
    generalize hrow : (cur.toList.take 0 ++ (xs.take ys.length).map (Value.int k) ++ cur.toList.drop (0 + ((xs.take ys.length).map (Value.int k)).length)).toArray = row at hrun
    refine ⟨w.setRow g row, by simp only [builtin, Sem.run_bind, hrun, Result.andThen_ok, Sem.run_pure]; simp [goInt, Nat.min_comm], ?_, ⟨rfl, rfl, rfl, by simp, fun i hi hne => setRow_other w g i _ (fun he => hne (by simp [Value.ownBlock, he]))⟩, by simp⟩
    subst hrow
    refine ⟨by simp, .inr ⟨g, cap, _, ?_, hB, setRow_heap w g cur _ e _ hg, ?_, hcm, ?_, ?_⟩⟩
    · rw [hda, hdl, hdc]; simp; omega
    · simp; omega
    · simp; omega
    · have hle2 : ((xs.take ys.length).map (Value.int k)).length ≤ cur.toList.length := by simp; omega
      simp only [List.take_zero, List.nil_append, Nat.zero_add, List.length_map, Nat.mul_one]
      have htk' : cur.toList.take ys.length = ys.map (Value.int k) := by simpa using htk
      apply List.ext_getElem?
      intro j
      rw [List.getElem?_take]
      simp only [List.map_append, List.map_take, List.map_drop, List.length_append, List.length_take, List.length_drop]
      by_cases hj : j < min ys.length xs.length + (ys.length - xs.length)
      · rw [if_pos hj, List.getElem?_append, List.getElem?_append]
        simp only [List.length_take, List.length_map, List.getElem?_take, List.getElem?_drop]
        by_cases hj2 : j < min ys.length xs.length
        · rw [if_pos hj2, if_pos hj2]
        · rw [if_neg hj2, if_neg hj2]
          have e1 : min ys.length xs.length + (j - min ys.length xs.length) = j := by omega
          have e2 : xs.length + (j - min ys.length xs.length) = j := by omega
          rw [e1, e2, ← htk', List.getElem?_take, if_pos (by omega)]
      · rw [if_neg hj]
        symm
        rw [List.getElem?_eq_none]
        simp; omega

/-! elements wider than a cell -/

def flat {α : Type} (f : α → List Value) (l : List α) : List Value := l.flatMap f
def setsL : List Value → Nat → List Value → List Value
  | vs, _, [] => vs
  | vs, i, c :: r => setsL (vs.set i c) (i + 1) r

theorem setsL_length : ∀ (cs vs : List Value) (i : Nat), (setsL vs i cs).length = vs.length
  | [], _, _ => rfl
  | c :: r, vs, i => by unfold setsL; rw [setsL_length r, List.length_set]

theorem setsL_skip : ∀ (cs a b : List Value) (i : Nat), setsL (a ++ b) (a.length + i) cs = a ++ setsL b i cs
  | [], _, _, _ => rfl
  | c :: r, a, b, i => by
    unfold setsL
    rw [List.set_append_right _ _ (by omega), show a.length + i - a.length = i by omega, show a.length + i + 1 = a.length + (i + 1) by omega]
    exact setsL_skip r a (b.set i c) (i + 1)
theorem setsL_all : ∀ (cs a b : List Value), a.length = cs.length → setsL (a ++ b) 0 cs = cs ++ b
  | [], a, b, h => by
    have : a = [] := by simpa using h
    subst this; rfl
  | c :: r, [], b, h => by simp at h
  | c :: r, x :: a, b, h => by
    unfold setsL
    have := setsL_skip r [c] (a ++ b) 0
    simp only [List.length_cons, List.length_nil, Nat.zero_add, Nat.add_zero, List.cons_append, List.nil_append, List.set_cons_zero] at this ⊢
    rw [this, setsL_all r a b (by simpa using h)]

section
variable {α : Type} {f : α → List Value} {n : Nat} (hf : ∀ x, (f x).length = n)
theorem flat_cons (x : α) (l : List α) : flat f (x :: l) = f x ++ flat f l := rfl
theorem flat_app (l l' : List α) : flat f (l ++ l') = flat f l ++ flat f l' := by simp [flat]
theorem flat_one (x : α) : flat f [x] = f x := by simp [flat]
include hf
theorem flat_length : ∀ l : List α, (flat f l).length = l.length * n
  | [] => by simp [flat]
  | x :: l => by rw [flat_cons, List.length_append, hf, flat_length l, List.length_cons, Nat.add_mul]; omega
theorem flat_get : ∀ {l : List α} {i : Nat} {x : α} {j : Nat}, l[i]? = some x → j < n → (flat f l)[i * n + j]? = (f x)[j]?
  | [], i, x, j, h, _ => by simp at h
  | y :: l, 0, x, j, h, hj => by
    simp at h; subst h
    rw [flat_cons, List.getElem?_append_left (by rw [hf]; omega)]; simp
  | y :: l, i + 1, x, j, h, hj => by
    rw [flat_cons, List.getElem?_append_right (by rw [hf, Nat.add_mul]; omega), hf, show (i + 1) * n + j - n = i * n + j by rw [Nat.add_mul]; omega]
    exact flat_get (by simpa using h) hj
theorem flat_set : ∀ {l : List α} {i : Nat} {y : α}, i < l.length → flat f (l.set i y) = setsL (flat f l) (i * n) (f y)
  | [], i, y, h => by simp at h
  | x :: l, 0, y, _ => by
    rw [List.set_cons_zero, flat_cons, flat_cons, Nat.zero_mul, setsL_all _ _ _ (by rw [hf, hf])]
  | x :: l, i + 1, y, h => by
    rw [List.set_cons_succ, flat_cons, flat_cons, show (i + 1) * n = (f x).length + i * n by rw [hf, Nat.add_mul]; omega, setsL_skip, flat_set (by simpa using h)]
end

theorem Sep.rowSets {B : Nat} {e : TypeId} {size : Nat} {s : Sl} {n : Nat} {q : Addr} (hq : s.a = some q) (k : Nat) : ∀ (cs : List Value) (i j : Nat) {w : World} {l : List Asn} {vs : List Value}, l[k]? = some (rowA e size s n vs) → Sep B w l → j + i + cs.length ≤ vs.length →
    Sep B (setCells (q.add j) cs i w) (l.set k (rowA e size s n (setsL vs (j + i) cs))) ∧ Below B w (setCells (q.add j) cs i w)
  | [], i, j, w, l, vs, hk, h, _ => by
    refine ⟨?_, Below.refl _ _⟩
    have : l.set k (rowA e size s n (setsL vs (j + i) [])) = l := by
      obtain ⟨hlt, he⟩ := List.getElem?_eq_some_iff.1 hk
      simp only [setsL]
      rw [← he]; exact List.set_getElem_self hlt
    rw [this]; exact h
  | c :: r, i, j, w, l, vs, hk, h, hl => by
    have hlt := (List.getElem?_eq_some_iff.1 hk).1
    obtain ⟨h1, hb1⟩ := h.rowSet k hk hq (j := j + i) (by simp at hl; omega) c
    obtain ⟨h2, hb2⟩ := Sep.rowSets (e := e) (size := size) (n := n) hq k r (i + 1) j (w := w.setCell (q.add (j + i)) c) (l := l.set k (rowA e size s n (vs.set (j + i) c))) (vs := vs.set (j + i) c) (by simp [hlt]) h1 (by simp at hl ⊢; omega)
    unfold setCells setsL
    rw [add_add]
    rw [List.set_set] at h2
    exact ⟨h2, hb1.trans hb2⟩

/-- element number i of a row is written -/
theorem Sep.rowEl {B : Nat} {w : World} {l : List Asn} (k : Nat) {e : TypeId} {size : Nat} {s : Sl} {n : Nat} {α : Type} {f : α → List Value} (hf : ∀ x, (f x).length = size) {xs : List α} (hk : l[k]? = some (rowA e size s n (flat f xs))) (h : Sep B w l) {q : Addr} (hq : s.a = some q) {i : Nat} (hi : i < xs.length) (y : α) :
    (∀ j, j < size → Wr w ((q.add (i * size)).add j)) ∧ Sep B (setCells (q.add (i * size)) (f y) 0 w) (l.set k (rowA e size s n (flat f (xs.set i y)))) ∧ Below B w (setCells (q.add (i * size)) (f y) 0 w) := by
  have hlen := flat_length hf xs
  have hin : i * size + size ≤ (flat f xs).length := by
    rw [hlen]
    have := Nat.mul_le_mul_right size (show i + 1 ≤ xs.length by omega)
    rw [Nat.add_mul] at this; omega
  refine ⟨fun j hj => by rw [add_add]; exact h.rowWr k hk hq (by omega), ?_⟩
  have := h.rowSets (j := i * size) hq k (f y) 0 hk (by rw [hf]; omega)
  rw [Nat.add_zero, ← flat_set hf hi] at this
  exact this

/-- element number i of a row is read -/
theorem Sep.rowGet {B : Nat} {w : World} {l : List Asn} (k : Nat) {e : TypeId} {size : Nat} (hz : 0 < size) {s : Sl} {n : Nat} {α : Type} {f : α → List Value} (hf : ∀ x, (f x).length = size) {xs : List α} (hk : l[k]? = some (rowA e size s n (flat f xs))) (h : Sep B w l) {i : Nat} {x : α} (hi : xs[i]? = some x) :
    ∃ q, s.a = some q ∧ ∀ (j : Nat) (u : Value), (f x)[j]? = some u → w.cell? ((q.add (i * size)).add j) = some u := by
  have hlt := (List.getElem?_eq_some_iff.1 hi).1
  have hlen := flat_length hf xs
  have hin : i * size < (flat f xs).length := by
    rw [hlen]; exact Nat.mul_lt_mul_of_pos_right hlt hz
  obtain ⟨q, hq, hc⟩ := h.rowCell k hk hin
  refine ⟨q, hq, fun j u hu => ?_⟩
  have hj : j < size := by rw [← hf x]; exact (List.getElem?_eq_some_iff.1 hu).1
  rw [add_add]
  exact hc _ u (by rw [flat_get hf hi hj]; exact hu)

/-- all of a slice behind a nil row -/
theorem twin_go {P : Program} {t ty e : TypeId} {i : TypeInfo} {z : Value} {size bytes : Nat} (ht : P.underlying t = some (.slice e)) (hi : P.info? e = some i) (hz : i.zero = some z) (hsize : i.size = size) (hby : i.bytes = bytes)
    (hzs : z.cells.size = size) (hsz : 0 < size) {w : World} {s : Sl} {m : Nat} {news : List Value} (hlen : s.len = m) (hl : news.length = m * size) (hnews : ∀ a, s.a = some a → ∀ j u, news[j]? = some u → w.cell? (a.add j) = some u) (hnone : s.a = none → m = 0) (ho : ∀ u ∈ news, u.oneCell' = true)
    (hm : m ≤ maxLen) (hb : m * bytes ≤ 140737488355328) :
    ∃ s' : Sl, ∃ w', (builtin .append #[t, t] ty #[] #[.slice none 0 0, .slice s.a s.len s.cap]).run P w = .ok (.value (.slice s'.a s'.len s'.cap)) w' ∧ s'.len = m ∧
      w'.ownsRow w.heap.size e size (.slice s'.a s'.len s'.cap) m news ∧ Below w.heap.size w w' := by
  cases ha : s.a with
  | none =>
    obtain rfl := hnone ha
    have : news = [] := List.eq_nil_of_length_eq_zero (by simpa using hl)
    subst this
    refine ⟨⟨none, 0, 0⟩, w, ?_, rfl, World.ownsRow_nil _ _ _ _, Below.refl _ _⟩
    simp [builtin, Builtin.append_, run_underlying ht, run_sizeOf' hi, hsize, Builtin.lenOf, Builtin.firstCells, hlen]
  | some a =>
    obtain ⟨v', w', hr, hown, hg, _⟩ := run_append_own (P := P) w w.heap.size t ty e i z size bytes ht hi hz hsize hby hzs hsz _ 0 [] (World.ownsRow_nil _ _ _ _) a m s.cap news hl (hnews a ha) ho (by simpa using hm) (by simpa using hb) (Nat.le_refl _)
    rw [Nat.zero_add, List.nil_append] at hown
    have hv : ∃ s' : Sl, v' = .slice s'.a s'.len s'.cap ∧ s'.len = m := by
      rcases hown.2 with ⟨rfl, h0⟩ | ⟨g, cap, cur, rfl, _⟩
      · exact ⟨⟨none, 0, 0⟩, rfl, h0.symm⟩
      · exact ⟨⟨some ⟨g, 0, none⟩, m, cap⟩, rfl, rfl⟩
    obtain ⟨s', rfl, hl'⟩ := hv
    rw [hlen]
    exact ⟨s', w', by simp [builtin, hr], hl', hown, (Below.refl _ w).grown hg (Nat.le_refl _) fun k hk => by simp [Value.ownBlock] at hk⟩

end Go.Lf
