/-
  Terms: two arenas to which the same is told are the same.
-/
import Derived.Test.YtoclhecldmahiaaDoorTmA
set_option linter.unusedVariables false
set_option linter.unusedVariables false
set_option linter.unusedSimpArgs false
namespace Go.Proofs.YtoclhecldmahiaaDoor
open Go.Lf Go.RowKit

end Go.Proofs.YtoclhecldmahiaaDoor

/-
  Terms: each answer, and each node, is the page's; made again each is what it was; as many arguments as may be.
-/
set_option linter.unusedVariables false
set_option linter.unusedSimpArgs false
namespace Go.Proofs.YtoclhecldmahiaaDoor
open Go.Lf Go.RowKit

theorem lawBuild {W : World} {s : Sl} {l : List Stp} (hT : PT W.heap.size W) (h : Stps W s l) (hh : heavyL l = false) : CallsV Tryd.prog n_trystlaw10_Build #[.slice s.a s.len s.cap] W fun v w' => ∃ a b Na Nb, v = .tuple #[.pointer (some a), .pointer (some b), .bool true] ∧
      terms Na = buildT l ∧ terms Nb = buildT l ∧ Sep W.heap.size w' [arA a Na, pgA b Nb] ∧ Below W.heap.size W w' :=
  build_spec h (Below.refl _ _) (Sep.nil (Nat.le_refl _)) hT hh

theorem put_mem {T : List Tm} {t u : Tm} (h : u ∈ (put T t).1) : u ∈ T ∨ u = t := by
  unfold put at h
  split at h
  · exact .inl h
  · split at h
    · exact .inl h
    · split at h
      · exact .inl h
      · simpa using h

theorem at_nat {T : List Tm} {k : Nat} (h : k < T.length) : inT T (k : Int) ∧ T[k]? = some (tmAt T (k : Int)) := by
  refine ⟨by unfold inT; omega, ?_⟩
  unfold tmAt
  rw [Int.toNat_natCast, List.getElem?_eq_getElem h]; rfl

end Go.Proofs.YtoclhecldmahiaaDoor

/-
  Terms: as many arguments as may be; opened with just the key.
-/
set_option linter.unusedVariables false
set_option linter.unusedSimpArgs false
namespace Go.Proofs.YtoclhecldmahiaaDoor
open Go.Lf Go.RowKit

end Go.Proofs.YtoclhecldmahiaaDoor

/-
  Terms: sealed, boxed, signed: opened with just the key.
-/
set_option linter.unusedVariables false
set_option linter.unusedSimpArgs false
namespace Go.Proofs.YtoclhecldmahiaaDoor
open Go.Lf Go.RowKit

end Go.Proofs.YtoclhecldmahiaaDoor

/-
  Terms: what is beneath, of both arenas: contracts.
-/
set_option linter.unusedVariables false
set_option linter.unusedSimpArgs false
namespace Go.Proofs.YtoclhecldmahiaaDoor
open Go.Lf Go.RowKit

theorem dec {k : Nat} (h : k < 9223372036854775807) : IntKind.i64.wrap (((k + 1 : Nat) : Int) - 1) = (k : Int) := by rw [w64 (by omega)]; omega

/-! turned round -/

abbrev boolA (s : Sl) (bs : List Bool) : Asn := rowA 4 1 s bs.length (bs.map Value.bool)

theorem _root_.Go.Lf.Sep.boolAt {B : Nat} {w : World} {l : List Asn} (k : Nat) {s : Sl} {bs : List Bool} (hk : l[k]? = some (boolA s bs)) (h : Sep B w l) {j : Nat} (hj : j < bs.length) : ∃ q, s.a = some q ∧ w.cell? (q.add j) = some (.bool (bs[j]?.getD false)) := by
  obtain ⟨q, hq, hc⟩ := h.rowCell k hk (j := j) (by rw [List.length_map]; exact hj)
  exact ⟨q, hq, hc j _ (by rw [List.getElem?_map, List.getElem?_eq_getElem hj]; rfl)⟩
theorem _root_.Go.Lf.Sep.boolSet {B : Nat} {w : World} {l : List Asn} (k : Nat) {s : Sl} {bs : List Bool} (hk : l[k]? = some (boolA s bs)) (h : Sep B w l) {q : Addr} (hq : s.a = some q) {j : Nat} (hj : j < bs.length) (b : Bool) :
    Wr w (q.add j) ∧ Sep B (w.setCell (q.add j) (.bool b)) (l.set k (boolA s (bs.set j b))) ∧ Below B w (w.setCell (q.add j) (.bool b)) := by
  refine ⟨h.rowWr k hk hq (by rw [List.length_map]; exact hj), ?_⟩
  have := h.rowSet k hk hq (j := j) (by rw [List.length_map]; exact hj) (.bool b)
  unfold boolA
  rw [List.map_set, List.length_set]
  exact this

theorem _root_.Go.Lf.Sep.bools {B : Nat} {w : World} {R : List Asn} (h : Sep B w R) {n : Nat} (hn : n ≤ 1000000000) :
    Sep B (w.alloc (.cells ((Array.range (n * 1)).map ((#[.bool false] : Array Value)[· % (#[.bool false] : Array Value).size]!)) 4)) (boolA ⟨some (newA w), n, n⟩ (List.replicate n false) :: R) ∧ Below B w (w.alloc (.cells ((Array.range (n * 1)).map ((#[.bool false] : Array Value)[· % (#[.bool false] : Array Value).size]!)) 4)) := by
  rw [range_cells]
  have hb := below_alloc w (.cells (List.replicate n (Value.bool false)).toArray 4)
  refine ⟨?_, hb.mono h.le⟩
  have := h.row (e := 4) (size := 1) (s := ⟨some (newA w), n, n⟩) (n := n) (vs := List.replicate n (Value.bool false)) (row_made (n := n) (by simp) (by unfold maxLen; omega)) hb
  unfold boolA
  rw [List.length_replicate, List.map_replicate]
  exact this

theorem own_more {B : Nat} {w : World} {l : List Asn} (k : Nat) {s : Sl} {xs : List Int} (hk : l[k]? = some (ownA s xs)) (h : Sep B w l) (x : Int) (hx : xs.length ≤ 100000000) :
    ∃ (s' : Sl) (w' : World), (builtin .append #[29, 29] 29 #[] #[.slice s.a s.len s.cap, .slice (some (newA w)) 1 1]).run Tryd.prog (w.alloc (.cells #[.int .i64 x] 3)) = .ok (.value (.slice s'.a s'.len s'.cap)) w' ∧ Sep B w' (l.set k (ownA s' (xs ++ [x]))) ∧ Below B w w' := by
  obtain ⟨i, hi, hz, hsz, hby⟩ := t3
  have hb1 := below_alloc w (.cells #[.int .i64 x] 3)
  have h1 := h.keep hb1
  obtain ⟨s', w', hr, _, h2, hb2⟩ := Sep.append (ty := 29) (c := 1) (m := 1) Tryd.underlying29 hi hz hsz hby rfl (by omega) k hk h1 (a := newA w) (news := [.int .i64 x]) rfl (fun j u hu => by rw [← hu]; exact (cell_new w #[.int .i64 x] 3 j).trans (by simp))
    (by intro u hu; simp at hu; subst hu; rfl) (by unfold maxLen; omega) (by omega) (by omega)
  refine ⟨s', w', hr, ?_, (hb1.mono h.le).trans hb2⟩
  unfold ownA
  rw [List.map_append, List.length_append]
  exact h2

end Go.Proofs.YtoclhecldmahiaaDoor

/-
  Terms: what is beneath, of the page: contract.
-/
set_option linter.unusedVariables false
set_option linter.unusedSimpArgs false
namespace Go.Proofs.YtoclhecldmahiaaDoor
open Go.Lf Go.RowKit

end Go.Proofs.YtoclhecldmahiaaDoor

/-
  Terms: what is told is the caller's own; what is opened, and what is beneath, is the page's.
-/
set_option linter.unusedVariables false
set_option linter.unusedSimpArgs false
namespace Go.Proofs.YtoclhecldmahiaaDoor
open Go.Lf Go.RowKit

end Go.Proofs.YtoclhecldmahiaaDoor

/-
  Terms: what is beneath a term is it, all its arguments, and what is beneath these; nothing else.
-/
set_option linter.unusedVariables false
set_option linter.unusedSimpArgs false
namespace Go.Proofs.YtoclhecldmahiaaDoor
open Go.Lf Go.RowKit

end Go.Proofs.YtoclhecldmahiaaDoor
