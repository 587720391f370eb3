/-
  A call's world from its beginning on: what stands in it, that all else is as it was; arenas by their terms alone.
-/
import Derived.Test.YtoclhecldmahiaaDoorTmI
import Derived.Test.YtoclhecldmahiaaDoorLiftB
import Derived.Test.YtoclhecldmahiaaDoorKnA
set_option linter.unusedVariables false
set_option linter.unusedVariables false
set_option linter.unusedSimpArgs false
namespace Go.Proofs.YtoclhecldmahiaaDoor
open Go.Lf Go.RowKit

structure At (W w : World) (L : List Asn) : Prop where
  s : Sep W.heap.size w L
  b : Below W.heap.size W w
  t : PT W.heap.size W

section
variable {W w w' : World} {L L' R : List Asn} {p : Addr} {T : List Tm}

theorem At.start (hT : PT W.heap.size W) : At W W [] := ⟨Sep.nil (Nat.le_refl _), Below.refl _ _, hT⟩
theorem At.pt (h : At W w L) : PT W.heap.size w := h.t.on h.b
theorem At.go (h : At W w L) (hs : Sep W.heap.size w' L') (hb : Below W.heap.size w w') : At W w' L' := ⟨hs, h.b.trans hb, h.t⟩
theorem At.go2 (h : At W w L) (hs : Sep W.heap.size w' L' ∧ Below W.heap.size w w') : At W w' L' := h.go hs.1 hs.2
theorem At.same (h : At W w L) (hs : Same w w') : At W w' L := h.go (h.s.same hs) (hs.below _)
theorem At.drew (h : At W w L) : At W w.drew L := h.same (Same.drew w)
theorem At.perm (h : At W w L) (hp : L.Perm L') : At W w L' := ⟨h.s.perm hp, h.b, h.t⟩
theorem At.drop {A : Asn} (h : At W w (A :: L)) : At W w L := ⟨h.s.drop, h.b, h.t⟩
theorem At.dropL (h : At W w (L ++ R)) : At W w R := ⟨h.s.dropL, h.b, h.t⟩
theorem At.swap {A C : Asn} (h : At W w (A :: C :: R)) : At W w (C :: A :: R) := ⟨h.s.swap, h.b, h.t⟩
theorem At.front (k : Nat) {A : Asn} (hk : L[k]? = some A) (h : At W w L) : At W w (A :: L.eraseIdx k) := ⟨h.s.front k hk, h.b, h.t⟩
theorem At.back (k : Nat) {A : Asn} (hk : k < L.length) (h : At W w (A :: L.eraseIdx k)) : At W w (L.set k A) := ⟨h.s.back k hk, h.b, h.t⟩
theorem At.keep (h : At W w L) (hb : Below w.heap.size w w') : At W w' L := h.go (h.s.keep hb) (hb.mono h.s.le)
/-- what was there at the beginning is -/
theorem At.ints (h : At W w L) {k : IntKind} {s : Sl} {xs : List Int} (hI : Ints k W s xs) : Ints k w s xs := hI.keep h.b
theorem At.cell (h : At W w L) {q : Addr} {v : Value} (hc : W.cell? q = some v) : w.cell? q = some v := Below.here h.b hc

/-! arenas -/

def arT (p : Addr) (T : List Tm) : Asn := exA (fun N : Nds => terms N = T) fun N => [arA p N]
def pgT (p : Addr) (T : List Tm) : Asn := exA (fun N : Nds => terms N = T) fun N => [pgA p N]

theorem Sep.arIn {B : Nat} {N : Nds} (h : Sep B w (arA p N :: R)) (hN : terms N = T) : Sep B w (arT p T :: R) := h.fold (Φ := fun N => [arA p N]) N hN
theorem Sep.pgIn {B : Nat} {N : Nds} (h : Sep B w (pgA p N :: R)) (hN : terms N = T) : Sep B w (pgT p T :: R) := h.fold (Φ := fun N => [pgA p N]) N hN
theorem Sep.arOut {B : Nat} (h : Sep B w (arT p T :: R)) : ∃ N, terms N = T ∧ Sep B w (arA p N :: R) := h.unfold
theorem Sep.pgOut {B : Nat} (h : Sep B w (pgT p T :: R)) : ∃ N, terms N = T ∧ Sep B w (pgA p N :: R) := h.unfold

theorem At.ok (h : At W w (arT p T :: R)) : TOk T := by
  obtain ⟨N, rfl, hs⟩ := Sep.arOut h.s
  exact arOk hs
theorem At.pok (h : At W w (pgT p T :: R)) : TOk T := by
  obtain ⟨N, rfl, hs⟩ := Sep.pgOut h.s
  exact pgOk hs

theorem new_at (h : At W w R) : CallsV Tryd.prog n_term_New #[] w fun v w' => ∃ p : Addr, v = .pointer (some p) ∧ At W w' (arT p [] :: R) := by
  refine (new_spec h.s).mono ?_
  rintro _ w' ⟨p, rfl, hs, hb⟩
  exact ⟨p, rfl, h.go (Sep.arIn hs rfl) hb⟩

theorem make_at (h : At W w (arT p T :: R)) {t : Tm} {s : Sl} (hn : t.n ≤ 9223372036854775807) (hI : ∀ X w', Sep W.heap.size w' (X :: R) → Below W.heap.size w w' → Ints .i64 w' s t.args) :
    CallsV Tryd.prog n_term_Arena_Make #[.pointer (some p), .int .i64 t.kind, .int .i64 t.n, .slice s.a s.len s.cap] w fun v w' => v = .tuple #[.int .i64 (put T t).2.1, .int .i64 (put T t).2.2] ∧ At W w' (arT p (put T t).1 :: R) := by
  obtain ⟨N, rfl, hs⟩ := Sep.arOut h.s
  refine (make_spec hs h.pt hn hI).mono ?_
  rintro _ w' ⟨more, rfl, e, hs', hb⟩
  exact ⟨rfl, h.go (Sep.arIn hs' e) hb⟩

/-- without args -/
theorem mk0 (k n : Int) (h : At W w (arT p T :: R)) (hn : n ≤ 9223372036854775807) :
    CallsV Tryd.prog n_term_Arena_Make #[.pointer (some p), .int .i64 k, .int .i64 n, .slice none 0 0] w fun v w' => v = .tuple #[.int .i64 (put T ⟨k, n, []⟩).2.1, .int .i64 (put T ⟨k, n, []⟩).2.2] ∧ At W w' (arT p (put T ⟨k, n, []⟩).1 :: R) :=
  make_at (t := ⟨k, n, []⟩) (s := ⟨none, 0, 0⟩) h hn fun _ _ _ _ => Ints.nil

/-- a new row of numbers -/
theorem At.row (h : At W w R) (xs : List Int) (hx : xs.length ≤ 1000000000) : At W (w.alloc (.cells (xs.map (Value.int .i64)).toArray 3)) (ownA ⟨some (newA w), xs.length, xs.length⟩ xs :: R) := by
  have hb := below_alloc w (.cells (xs.map (Value.int .i64)).toArray 3)
  exact h.go (h.s.row (made_ints (by unfold maxLen; omega)) hb) (hb.mono h.s.le)
theorem rowNow {B : Nat} (k : Nat) {s : Sl} {xs : List Int} (hk : L[k]? = some (ownA s xs)) (h : Sep B w L) (hx : xs.length ≤ 9223372036854775807) : Ints .i64 w s xs := rowInts k hk h hx

theorem mk (k n : Int) (args : List Int) (h : At W w (arT p T :: R)) (hn : n ≤ 9223372036854775807) (hl : args.length ≤ 1000000000) :
    CallsV Tryd.prog n_term_Arena_Make #[.pointer (some p), .int .i64 k, .int .i64 n, .slice (some (newA w)) args.length args.length] (w.alloc (.cells (args.map (Value.int .i64)).toArray 3)) fun v w' =>
      v = .tuple #[.int .i64 (put T ⟨k, n, args⟩).2.1, .int .i64 (put T ⟨k, n, args⟩).2.2] ∧ At W w' (arT p (put T ⟨k, n, args⟩).1 :: R) := by
  have h1 := (h.row args hl).swap
  refine (make_at (t := ⟨k, n, args⟩) (s := ⟨some (newA w), args.length, args.length⟩) h1 hn fun X w' hs _ => rowNow 1 rfl hs (by show args.length ≤ _; omega)).mono ?_
  rintro _ w' ⟨rfl, h2⟩
  exact ⟨rfl, h2.swap.drop⟩

theorem len_at (h : At W w (arT p T :: R)) : CallsV Tryd.prog n_term_Arena_Len #[.pointer (some p)] w fun v w' => v = .int .i64 (T.length : Int) ∧ w = w' := by
  obtain ⟨N, rfl, hs⟩ := Sep.arOut h.s
  obtain ⟨a, c, hc⟩ := arLen hs
  exact len_spec hc

theorem has_at (h : At W w (arT p T :: R)) {s : Sl} {xs : List Int} (hI : Ints .i64 w s xs) :
    CallsV Tryd.prog n_term_Arena_Has #[.pointer (some p), .slice s.a s.len s.cap] w fun v w' => v = .bool (decide (∀ x ∈ xs, inT T x)) ∧ w = w' := by
  obtain ⟨N, rfl, hs⟩ := Sep.arOut h.s
  obtain ⟨a, c, hc⟩ := arLen hs
  exact has_spec hc hI

theorem has_new (xs : List Int) (h : At W w (arT p T :: R)) (hx : xs.length ≤ 1000000000) :
    CallsV Tryd.prog n_term_Arena_Has #[.pointer (some p), .slice (some (newA w)) xs.length xs.length] (w.alloc (.cells (xs.map (Value.int .i64)).toArray 3)) fun v w' => v = .bool (decide (∀ x ∈ xs, inT T x)) ∧ At W w' (arT p T :: R) := by
  have h1 := h.row xs hx
  refine (has_at h1.swap (s := ⟨some (newA w), xs.length, xs.length⟩) (rowNow 0 rfl h1.s (by omega))).mono ?_
  rintro _ _ ⟨rfl, rfl⟩
  exact ⟨rfl, h1.drop⟩

/-- one number more behind a row -/
theorem more_at (k : Nat) {s : Sl} {xs : List Int} (hk : L[k]? = some (ownA s xs)) (h : At W w L) (x : Int) (hx : xs.length ≤ 100000000) :
    ∃ (s' : Sl) (w' : World), (builtin .append #[29, 29] 29 #[] #[.slice s.a s.len s.cap, .slice (some (newA w)) 1 1]).run Tryd.prog (w.alloc (.cells #[.int .i64 x] 3)) = .ok (.value (.slice s'.a s'.len s'.cap)) w' ∧ At W w' (L.set k (ownA s' (xs ++ [x]))) := by
  obtain ⟨s', w', hr, hs, hb⟩ := own_more k hk h.s x hx
  exact ⟨s', w', hr, h.go hs hb⟩

/-- a number of a row -/
theorem At.num (k : Nat) {s : Sl} {xs : List Int} (hk : L[k]? = some (ownA s xs)) (h : At W w L) {i : Nat} (hi : i < xs.length) : ∃ q, s.a = some q ∧ w.cell? (q.add i) = some (.int .i64 xs[i]) := by
  obtain ⟨q, hq, hc⟩ := h.s.rowCell k hk (j := i) (by simpa using hi)
  exact ⟨q, hq, hc i _ (by simp [hi])⟩
theorem At.numLen (k : Nat) {s : Sl} {xs : List Int} (hk : L[k]? = some (ownA s xs)) (h : At W w L) : s.len = xs.length := (h.s.rowLen k hk).1
theorem At.own {s : Sl} {xs : List Int} (h : At W w R) (ho : OwnI w.heap.size 3 .i64 w' s xs) (hb : Below w.heap.size w w') : At W w' (ownA s xs :: R) := h.go (h.s.row ho hb) (hb.mono h.s.le)
end

end Go.Proofs.YtoclhecldmahiaaDoor
