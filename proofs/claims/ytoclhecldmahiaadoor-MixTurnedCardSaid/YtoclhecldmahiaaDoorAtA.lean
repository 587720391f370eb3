/-
  A call's world from its beginning on: what stands in it, that all else is as it was; arenas by their terms alone.
-/
import Derived.Test.YtoclhecldmahiaaDoorTmI
import Derived.Test.YtoclhecldmahiaaDoorLiftB
import Derived.Test.YtoclhecldmahiaaDoorTmA
set_option linter.unusedVariables false
set_option linter.unusedVariables false
set_option linter.unusedSimpArgs false
namespace Go.Proofs.YtoclhecldmahiaaDoor
open Go.Lf Go.RowKit

def toI (l : List Nat) : List Int := l.map fun k => ((k : Nat) : Int)
theorem toI_len (l : List Nat) : (toI l).length = l.length := by simp [toI]
theorem toI_app (l m : List Nat) : toI (l ++ m) = toI l ++ toI m := by simp [toI]
theorem toI_at {l : List Nat} {k : Nat} (h : k < l.length) : (toI l)[k]? = some ((l[k] : Nat) : Int) := by simp [toI, h]

theorem arArgs {B : Nat} {w : World} {p : Addr} {N : Nds} {R : List Asn} (h : Sep B w (arA p N :: R)) {i : Nat} {x : Tm × Sl} (hx : N[i]? = some x) : Ints .i64 w x.2 x.1.args ∧ x.2.len ≤ x.2.cap := by
  obtain ⟨⟨sl, m⟩, ⟨hok, hcaps⟩, hS⟩ := h.unfold
  have hS : Sep B w (arL 98 p N sl m ++ R) := hS
  exact ⟨argsAt 3 rfl hS hx, hcaps x (List.mem_of_getElem? hx)⟩

theorem at_spec {B : Nat} {w : World} {p : Addr} {N : Nds} {R : List Asn} (h : Sep B w (arA p N :: R)) {i : Nat} {x : Tm × Sl} (hx : N[i]? = some x) (hi : i ≤ 1048576) :
    CallsV Tryd.prog n_term_Arena_At #[.pointer (some p), .int .i64 (i : Int)] w fun v w' => v = .agg #[.int .i64 x.1.kind, .int .i64 x.1.n, .slice x.2.a x.2.len x.2.cap] ∧ Below w.heap.size w w' := by
  refine term_Arena_At.lift ?_
  unfold term_Arena_At.main
  intro w1
  have hb1 : Below w.heap.size w w1 := below_alloc _ _
  have h1 := h.keep hb1
  obtain ⟨⟨sl, m⟩, ⟨hok, hcaps⟩, hS⟩ := h1.unfold
  have hS : Sep B w1 (arL 98 p N sl m ++ R) := hS
  have hsl : sl.len = N.length := (hS.rowLen 1 rfl).1
  have hlt := (List.getElem?_eq_some_iff.1 hx).1
  obtain ⟨q, hq, hc⟩ := hS.rowGet 1 (by omega) nodeC.w rfl hx
  have hc0 := hc 0 _ rfl
  rw [add_zero] at hc0
  refine ⟨p, rfl, _, _, _, hS.cell0 0 rfl rfl, by omega, by omega, q, hq, _, by rw [Int.toNat_natCast]; exact hc0, _, by rw [Int.toNat_natCast]; exact hc 1 _ rfl, _, _, _, by rw [Int.toNat_natCast]; exact hc 2 _ rfl, fun j hj => wr_new _ _ _ (by simpa using hj), ?_⟩
  intro w2
  have e2 : w2 = w.alloc (.cells #[.int .i64 x.1.kind, .int .i64 x.1.n, .slice x.2.a x.2.len x.2.cap] 98) := box_set3
  clear_value w2
  have n0 : w2.cell? (newA w) = some (.int .i64 x.1.kind) := by rw [e2]; exact cell_new0 _ _ _
  have n1 : w2.cell? ((newA w).add 1) = some (.int .i64 x.1.n) := by rw [e2]; exact cell_new _ _ _ 1
  have n2 : w2.cell? ((newA w).add 2) = some (.slice x.2.a x.2.len x.2.cap) := by rw [e2]; exact cell_new _ _ _ 2
  exact ⟨_, n0, _, n1, _, _, _, n2, rfl, by rw [e2]; exact below_alloc _ _⟩


theorem node_at {N : Nds} {i : Nat} (hi : i < (terms N).length) : ∃ s, N[i]? = some (tmAt (terms N) (i : Int), s) := terms_of (at_nat hi).2

theorem more9 {B : Nat} {w : World} {l : List Asn} (k : Nat) {s : Sl} {xs : List Int} (hk : l[k]? = some (ownA s xs)) (h : Sep B w l) (x : Int) (hx : xs.length ≤ 1000000000) :
    ∃ (s' : Sl) (w' : World), (builtin .append #[29, 29] 29 #[] #[.slice s.a s.len s.cap, .slice (some (newA w)) 1 1]).run Tryd.prog (w.alloc (.cells #[.int .i64 x] 3)) = .ok (.value (.slice s'.a s'.len s'.cap)) w' ∧ Sep B w' (l.set k (ownA s' (xs ++ [x]))) ∧ Below B w w' := by
  obtain ⟨i, hi, hz, hsz, hby⟩ := t3
  have hb1 := below_alloc w (.cells #[.int .i64 x] 3)
  have h1 := h.keep hb1
  obtain ⟨s', w', hr, _, h2, hb2⟩ := Sep.append (ty := 29) (c := 1) (m := 1) Tryd.underlying29 hi hz hsz hby rfl (by omega) k hk h1 (a := newA w) (news := [.int .i64 x]) rfl (fun j u hu => by rw [← hu]; exact (cell_new w #[.int .i64 x] 3 j).trans (by simp))
    (by intro u hu; simp at hu; subst hu; rfl) (by unfold maxLen; omega) (by omega) (by omega)
  refine ⟨s', w', hr, ?_, (hb1.mono h.le).trans hb2⟩
  unfold ownA
  rw [List.map_append, List.length_append]
  exact h2

theorem _root_.Go.Lf.Sep.less {B : Nat} {w : World} {L : List Asn} (k : Nat) {A : Asn} (hk : L[k]? = some A) (h : Sep B w L) : Sep B w (L.eraseIdx k) := (h.front k hk).drop

structure At (W w : World) (L : List Asn) : Prop where
  s : Sep W.heap.size w L
  b : Below W.heap.size W w
  t : PT W.heap.size W

section
variable {W w w' : World} {L L' R : List Asn} {p : Addr} {T : List Tm}

theorem At.start (hT : PT W.heap.size W) : At W W [] := ⟨Sep.nil (Nat.le_refl _), Below.refl _ _, hT⟩
theorem At.pt (h : At W w L) : PT W.heap.size w := h.t.on h.b
theorem At.go (h : At W w L) (hs : Sep W.heap.size w' L') (hb : Below W.heap.size w w') : At W w' L' := ⟨hs, h.b.trans hb, h.t⟩
theorem At.go2 (h : At W w L) (hs : Sep W.heap.size w' L' ∧ Below W.heap.size w w') : At W w' L' := h.go hs.1 hs.2
theorem At.same (h : At W w L) (hs : Same w w') : At W w' L := h.go (h.s.same hs) (hs.below _)
theorem At.drew (h : At W w L) : At W w.drew L := h.same (Same.drew w)
theorem At.perm (h : At W w L) (hp : L.Perm L') : At W w L' := ⟨h.s.perm hp, h.b, h.t⟩
theorem At.drop {A : Asn} (h : At W w (A :: L)) : At W w L := ⟨h.s.drop, h.b, h.t⟩
theorem At.dropL (h : At W w (L ++ R)) : At W w R := ⟨h.s.dropL, h.b, h.t⟩
theorem At.swap {A C : Asn} (h : At W w (A :: C :: R)) : At W w (C :: A :: R) := ⟨h.s.swap, h.b, h.t⟩
theorem At.front (k : Nat) {A : Asn} (hk : L[k]? = some A) (h : At W w L) : At W w (A :: L.eraseIdx k) := ⟨h.s.front k hk, h.b, h.t⟩
theorem At.back (k : Nat) {A : Asn} (hk : k < L.length) (h : At W w (A :: L.eraseIdx k)) : At W w (L.set k A) := ⟨h.s.back k hk, h.b, h.t⟩
theorem At.keep (h : At W w L) (hb : Below w.heap.size w w') : At W w' L := h.go (h.s.keep hb) (hb.mono h.s.le)
/-- what was there at the beginning is -/
theorem At.ints (h : At W w L) {k : IntKind} {s : Sl} {xs : List Int} (hI : Ints k W s xs) : Ints k w s xs := hI.keep h.b
theorem At.cell (h : At W w L) {q : Addr} {v : Value} (hc : W.cell? q = some v) : w.cell? q = some v := Below.here h.b hc

/-! arenas -/

def arT (p : Addr) (T : List Tm) : Asn := exA (fun N : Nds => terms N = T) fun N => [arA p N]
def pgT (p : Addr) (T : List Tm) : Asn := exA (fun N : Nds => terms N = T) fun N => [pgA p N]

theorem Sep.arIn {B : Nat} {N : Nds} (h : Sep B w (arA p N :: R)) (hN : terms N = T) : Sep B w (arT p T :: R) := h.fold (Φ := fun N => [arA p N]) N hN
theorem Sep.pgIn {B : Nat} {N : Nds} (h : Sep B w (pgA p N :: R)) (hN : terms N = T) : Sep B w (pgT p T :: R) := h.fold (Φ := fun N => [pgA p N]) N hN
theorem Sep.arOut {B : Nat} (h : Sep B w (arT p T :: R)) : ∃ N, terms N = T ∧ Sep B w (arA p N :: R) := h.unfold
theorem Sep.pgOut {B : Nat} (h : Sep B w (pgT p T :: R)) : ∃ N, terms N = T ∧ Sep B w (pgA p N :: R) := h.unfold

theorem At.ok (h : At W w (arT p T :: R)) : TOk T := by
  obtain ⟨N, rfl, hs⟩ := Sep.arOut h.s
  exact arOk hs
theorem At.pok (h : At W w (pgT p T :: R)) : TOk T := by
  obtain ⟨N, rfl, hs⟩ := Sep.pgOut h.s
  exact pgOk hs

theorem new_at (h : At W w R) : CallsV Tryd.prog n_term_New #[] w fun v w' => ∃ p : Addr, v = .pointer (some p) ∧ At W w' (arT p [] :: R) := by
  refine (new_spec h.s).mono ?_
  rintro _ w' ⟨p, rfl, hs, hb⟩
  exact ⟨p, rfl, h.go (Sep.arIn hs rfl) hb⟩

theorem make_at (h : At W w (arT p T :: R)) {t : Tm} {s : Sl} (hn : t.n ≤ 9223372036854775807) (hI : ∀ X w', Sep W.heap.size w' (X :: R) → Below W.heap.size w w' → Ints .i64 w' s t.args) :
    CallsV Tryd.prog n_term_Arena_Make #[.pointer (some p), .int .i64 t.kind, .int .i64 t.n, .slice s.a s.len s.cap] w fun v w' => v = .tuple #[.int .i64 (put T t).2.1, .int .i64 (put T t).2.2] ∧ At W w' (arT p (put T t).1 :: R) := by
  obtain ⟨N, rfl, hs⟩ := Sep.arOut h.s
  refine (make_spec hs h.pt hn hI).mono ?_
  rintro _ w' ⟨more, rfl, e, hs', hb⟩
  exact ⟨rfl, h.go (Sep.arIn hs' e) hb⟩

/-- without args -/
theorem mk0 (k n : Int) (h : At W w (arT p T :: R)) (hn : n ≤ 9223372036854775807) :
    CallsV Tryd.prog n_term_Arena_Make #[.pointer (some p), .int .i64 k, .int .i64 n, .slice none 0 0] w fun v w' => v = .tuple #[.int .i64 (put T ⟨k, n, []⟩).2.1, .int .i64 (put T ⟨k, n, []⟩).2.2] ∧ At W w' (arT p (put T ⟨k, n, []⟩).1 :: R) :=
  make_at (t := ⟨k, n, []⟩) (s := ⟨none, 0, 0⟩) h hn fun _ _ _ _ => Ints.nil

/-- a new row of numbers -/
theorem At.row (h : At W w R) (xs : List Int) (hx : xs.length ≤ 1000000000) : At W (w.alloc (.cells (xs.map (Value.int .i64)).toArray 3)) (ownA ⟨some (newA w), xs.length, xs.length⟩ xs :: R) := by
  have hb := below_alloc w (.cells (xs.map (Value.int .i64)).toArray 3)
  exact h.go (h.s.row (made_ints (by unfold maxLen; omega)) hb) (hb.mono h.s.le)
theorem rowNow {B : Nat} (k : Nat) {s : Sl} {xs : List Int} (hk : L[k]? = some (ownA s xs)) (h : Sep B w L) (hx : xs.length ≤ 9223372036854775807) : Ints .i64 w s xs := rowInts k hk h hx

theorem mk (k n : Int) (args : List Int) (h : At W w (arT p T :: R)) (hn : n ≤ 9223372036854775807) (hl : args.length ≤ 1000000000) :
    CallsV Tryd.prog n_term_Arena_Make #[.pointer (some p), .int .i64 k, .int .i64 n, .slice (some (newA w)) args.length args.length] (w.alloc (.cells (args.map (Value.int .i64)).toArray 3)) fun v w' =>
      v = .tuple #[.int .i64 (put T ⟨k, n, args⟩).2.1, .int .i64 (put T ⟨k, n, args⟩).2.2] ∧ At W w' (arT p (put T ⟨k, n, args⟩).1 :: R) := by
  have h1 := (h.row args hl).swap
  refine (make_at (t := ⟨k, n, args⟩) (s := ⟨some (newA w), args.length, args.length⟩) h1 hn fun X w' hs _ => rowNow 1 rfl hs (by show args.length ≤ _; omega)).mono ?_
  rintro _ w' ⟨rfl, h2⟩
  exact ⟨rfl, h2.swap.drop⟩

theorem has_at (h : At W w (arT p T :: R)) {s : Sl} {xs : List Int} (hI : Ints .i64 w s xs) :
    CallsV Tryd.prog n_term_Arena_Has #[.pointer (some p), .slice s.a s.len s.cap] w fun v w' => v = .bool (decide (∀ x ∈ xs, inT T x)) ∧ w = w' := by
  obtain ⟨N, rfl, hs⟩ := Sep.arOut h.s
  obtain ⟨a, c, hc⟩ := arLen hs
  exact has_spec hc hI

theorem has_new (xs : List Int) (h : At W w (arT p T :: R)) (hx : xs.length ≤ 1000000000) :
    CallsV Tryd.prog n_term_Arena_Has #[.pointer (some p), .slice (some (newA w)) xs.length xs.length] (w.alloc (.cells (xs.map (Value.int .i64)).toArray 3)) fun v w' => v = .bool (decide (∀ x ∈ xs, inT T x)) ∧ At W w' (arT p T :: R) := by
  have h1 := h.row xs hx
  refine (has_at h1.swap (s := ⟨some (newA w), xs.length, xs.length⟩) (rowNow 0 rfl h1.s (by omega))).mono ?_
  rintro _ _ ⟨rfl, rfl⟩
  exact ⟨rfl, h1.drop⟩

/-- one number more behind a row -/
theorem more_at (k : Nat) {s : Sl} {xs : List Int} (hk : L[k]? = some (ownA s xs)) (h : At W w L) (x : Int) (hx : xs.length ≤ 100000000) :
    ∃ (s' : Sl) (w' : World), (builtin .append #[29, 29] 29 #[] #[.slice s.a s.len s.cap, .slice (some (newA w)) 1 1]).run Tryd.prog (w.alloc (.cells #[.int .i64 x] 3)) = .ok (.value (.slice s'.a s'.len s'.cap)) w' ∧ At W w' (L.set k (ownA s' (xs ++ [x]))) := by
  obtain ⟨s', w', hr, hs, hb⟩ := own_more k hk h.s x hx
  exact ⟨s', w', hr, h.go hs hb⟩

/-- a number of a row -/
theorem At.num (k : Nat) {s : Sl} {xs : List Int} (hk : L[k]? = some (ownA s xs)) (h : At W w L) {i : Nat} (hi : i < xs.length) : ∃ q, s.a = some q ∧ w.cell? (q.add i) = some (.int .i64 xs[i]) := by
  obtain ⟨q, hq, hc⟩ := h.s.rowCell k hk (j := i) (by simpa using hi)
  exact ⟨q, hq, hc i _ (by simp [hi])⟩
theorem At.numLen (k : Nat) {s : Sl} {xs : List Int} (hk : L[k]? = some (ownA s xs)) (h : At W w L) : s.len = xs.length := (h.s.rowLen k hk).1
theorem At.own {s : Sl} {xs : List Int} (h : At W w R) (ho : OwnI w.heap.size 3 .i64 w' s xs) (hb : Below w.heap.size w w') : At W w' (ownA s xs :: R) := h.go (h.s.row ho hb) (hb.mono h.s.le)
end

end Go.Proofs.YtoclhecldmahiaaDoor

/-
  Terms: how the steps come in.
-/
set_option linter.unusedVariables false
namespace Go.Proofs.YtoclhecldmahiaaDoor
open Go.Lf Go.RowKit

end Go.Proofs.YtoclhecldmahiaaDoor

/-
  Arenas by their terms: what is put stands there; rows, truths, the page's arena; how numbers and truths come in.
-/
set_option linter.unusedVariables false
set_option linter.unusedSimpArgs false
namespace Go.Proofs.YtoclhecldmahiaaDoor
open Go.Lf Go.RowKit

/-- numbers that came in -/
structure IntsW (w : World) (s : Sl) (xs : List Int) : Prop where
  i : Ints .i64 w s xs
  wf : ∀ x ∈ xs, -9223372036854775808 ≤ x ∧ x ≤ 9223372036854775807

theorem put_len1 (T : List Tm) (t : Tm) : (put T t).1.length ≤ T.length + 1 ∧ T.length ≤ (put T t).1.length := by
  obtain ⟨r, e, h⟩ := put_grow T t
  rw [e, List.length_append]; omega

theorem inT_of {T : List Tm} {x : Nat} {t : Tm} (h : T[x]? = some t) : inT T (x : Int) := by
  have := (List.getElem?_eq_some_iff.1 h).1
  unfold inT; omega

section
variable {W w : World} {L R : List Asn} {p : Addr} {T : List Tm}

theorem make_row (k : Nat) (kd n : Int) {s : Sl} {xs : List Int} (hk : R[k]? = some (ownA s xs)) (h : At W w (arT p T :: R)) (hn : n ≤ 9223372036854775807) (hx : xs.length ≤ 1000000000) :
    CallsV Tryd.prog n_term_Arena_Make #[.pointer (some p), .int .i64 kd, .int .i64 n, .slice s.a s.len s.cap] w fun v w' => v = .tuple #[.int .i64 (put T ⟨kd, n, xs⟩).2.1, .int .i64 (put T ⟨kd, n, xs⟩).2.2] ∧ At W w' (arT p (put T ⟨kd, n, xs⟩).1 :: R) :=
  make_at (t := ⟨kd, n, xs⟩) h hn fun X w' hs _ => rowNow (k + 1) (by rw [List.getElem?_cons_succ]; exact hk) hs (by show xs.length ≤ _; omega)
end

abbrev Bools (w : World) (s : Sl) (bs : List Bool) : Prop := Els 1 BoolC w s bs
theorem At.bools {W w : World} {L : List Asn} (h : At W w L) {s : Sl} {bs : List Bool} (hb : Bools W s bs) : Bools w s bs := hb.keep BoolC.stab h.b

theorem At.nil {W w : World} {R : List Asn} (h : At W w R) : At W w (ownA ⟨none, 0, 0⟩ [] :: R) := h.go (h.s.rowNil 3 1) (Below.refl _ _)

theorem pg_at {B : Nat} {w : World} {p : Addr} {N : Nds} {R : List Asn} (h : Sep B w (pgA p N :: R)) : ∃ a c, w.cell? p = some (.slice a N.length c) ∧ ∀ (i : Nat) (x : Tm × Sl), N[i]? = some x → ∃ q, a = some q ∧
    w.cell? (q.add (i * 3)) = some (.int .i64 x.1.kind) ∧ w.cell? ((q.add (i * 3)).add 1) = some (.int .i64 x.1.n) ∧ w.cell? ((q.add (i * 3)).add 2) = some (.slice x.2.a x.2.len x.2.cap) ∧ Ints .i64 w x.2 x.1.args := by
  obtain ⟨sl, ⟨hok, hcaps⟩, hS⟩ := h.unfold
  have hS : Sep B w (pgL 98 p N sl ++ R) := hS
  have hsl : sl.len = N.length := (hS.rowLen 1 rfl).1
  refine ⟨sl.a, sl.cap, by rw [← hsl]; exact hS.cell0 0 rfl rfl, fun i x hx => ?_⟩
  obtain ⟨q, hq, hc⟩ := hS.rowGet 1 (by omega) nodeC.w rfl hx
  have hc0 := hc 0 _ rfl
  rw [add_zero] at hc0
  exact ⟨q, hq, hc0, hc 1 _ rfl, hc 2 _ rfl, argsAt 2 rfl hS hx⟩

theorem buildAt {W : World} (hT : PT W.heap.size W) {s : Sl} {l : List Stp} (h : Stps W s l) (hh : heavyL l = false) : CallsV Tryd.prog n_trystlaw10_Build #[.slice s.a s.len s.cap] W fun v w' => ∃ a b N, v = .tuple #[.pointer (some a), .pointer (some b), .bool true] ∧
      terms N = buildT l ∧ At W w' [arT a (buildT l), pgA b N] := by
  refine (lawBuild hT h hh).mono ?_
  rintro _ w' ⟨a, b, Na, Nb, rfl, h1, h2, h3, h4⟩
  exact ⟨a, b, Nb, rfl, h2, ⟨Sep.arIn h3 h1, h4, hT⟩⟩

theorem wf_two {n : Int} (h : (Lit.int .i64 n).wf = true) : -9223372036854775808 ≤ n ∧ n ≤ 9223372036854775807 := by
  unfold Lit.wf at h
  simp only [Bool.and_eq_true, decide_eq_true_eq] at h
  have e1 : IntKind.i64.max = 9223372036854775807 := by decide
  have e2 : IntKind.i64.min = -9223372036854775808 := by decide
  omega

end Go.Proofs.YtoclhecldmahiaaDoor
