/-
  Terms: two arenas to which the same is told are the same.
-/
import Derived.Test.YtoclhecldmahiaaDoorTmA
set_option linter.unusedVariables false
set_option linter.unusedVariables false
set_option linter.unusedSimpArgs false
namespace Go.Proofs.YtoclhecldmahiaaDoor
open Go.Lf Go.RowKit

theorem Sep.mid {B : Nat} {w : World} {L R : List Asn} {A : Asn} (h : Sep B w (L ++ A :: R)) : Sep B w (L ++ R) := (h.perm List.perm_middle).drop

end Go.Proofs.YtoclhecldmahiaaDoor

/-
  Terms: each answer, and each node, is the page's; made again each is what it was; as many arguments as may be.
-/
set_option linter.unusedVariables false
set_option linter.unusedSimpArgs false
namespace Go.Proofs.YtoclhecldmahiaaDoor
open Go.Lf Go.RowKit

theorem lawBuild {W : World} {s : Sl} {l : List Stp} (hT : PT W.heap.size W) (h : Stps W s l) (hh : heavyL l = false) : CallsV Tryd.prog n_trystlaw10_Build #[.slice s.a s.len s.cap] W fun v w' => ∃ a b Na Nb, v = .tuple #[.pointer (some a), .pointer (some b), .bool true] ∧
      terms Na = buildT l ∧ terms Nb = buildT l ∧ Sep W.heap.size w' [arA a Na, pgA b Nb] ∧ Below W.heap.size W w' :=
  build_spec h (Below.refl _ _) (Sep.nil (Nat.le_refl _)) hT hh

theorem put_mem {T : List Tm} {t u : Tm} (h : u ∈ (put T t).1) : u ∈ T ∨ u = t := by
  unfold put at h
  split at h
  · exact .inl h
  · split at h
    · exact .inl h
    · split at h
      · exact .inl h
      · simpa using h

theorem fold_n {M : Int} : ∀ (l : List Stp) (T : List Tm), (∀ x ∈ l, x.n ≤ M) → (∀ t ∈ T, t.n ≤ M) → ∀ t ∈ l.foldl (fun T x => (put T (stepT T x)).1) T, t.n ≤ M
  | [], T, _, hT, t, ht => hT t ht
  | x :: l, T, hl, hT, t, ht => by
    refine fold_n l _ (fun y hy => hl y (by simp [hy])) (fun u hu => ?_) t ht
    rcases put_mem hu with hu | rfl
    · exact hT u hu
    · exact hl x (by simp)

theorem build_n {W : World} {s : Sl} {l : List Stp} (h : Stps W s l) : ∀ t ∈ buildT l, t.n ≤ 9223372036854775807 := by
  refine fold_n _ [] (fun x hx => ?_) (fun t ht => by cases ht)
  obtain ⟨i, hi, he⟩ := List.mem_iff_getElem.1 (List.mem_of_mem_take hx)
  obtain ⟨p, cs, _, _, _, sx, _, _, hn⟩ := h.el i x (by rw [List.getElem?_eq_getElem hi, he])
  exact hn

theorem at_nat {T : List Tm} {k : Nat} (h : k < T.length) : inT T (k : Int) ∧ T[k]? = some (tmAt T (k : Int)) := by
  refine ⟨by unfold inT; omega, ?_⟩
  unfold tmAt
  rw [Int.toNat_natCast, List.getElem?_eq_getElem h]; rfl

end Go.Proofs.YtoclhecldmahiaaDoor

/-
  Terms: as many arguments as may be; opened with just the key.
-/
set_option linter.unusedVariables false
set_option linter.unusedSimpArgs false
namespace Go.Proofs.YtoclhecldmahiaaDoor
open Go.Lf Go.RowKit

theorem put_at {T : List Tm} {t : Tm} (h : errOf T t = 0) (hl : T.length < 1048576) : (put T t).2.2 = 0 ∧ inT (put T t).1 (put T t).2.1 ∧ tmAt (put T t).1 (put T t).2.1 = t := by
  cases hp : place T t with
  | some i =>
    rw [put_is h hp]
    have hi := place_some hp
    have hlt := (List.getElem?_eq_some_iff.1 hi).1
    refine ⟨rfl, ⟨by simp only; omega, by simp only; omega⟩, ?_⟩
    unfold tmAt
    simp only [Int.toNat_natCast]
    rw [hi]; rfl
  | none =>
    rw [put_new h hp (by omega)]
    refine ⟨rfl, ⟨by simp only; omega, by simp only [List.length_append, List.length_singleton]; omega⟩, ?_⟩
    unfold tmAt
    simp

theorem put_stay (T : List Tm) (t : Tm) {i : Int} (hi : inT T i) : inT (put T t).1 i ∧ tmAt (put T t).1 i = tmAt T i := by
  have key : (put T t).1 = T ∨ (put T t).1 = T ++ [t] := by
    unfold put
    split
    · exact .inl rfl
    · split
      · exact .inl rfl
      · split
        · exact .inl rfl
        · exact .inr rfl
  rcases key with h | h
  · rw [h]; exact ⟨hi, rfl⟩
  · rw [h]
    unfold inT at *
    refine ⟨⟨hi.1, by rw [List.length_append, List.length_singleton]; omega⟩, ?_⟩
    unfold tmAt
    rw [List.getElem?_append_left (by omega)]

theorem put_err {T : List Tm} {t : Tm} (hl : T.length < 1048576) : (put T t).2.2 = errOf T t ∧ (errOf T t ≠ 0 → (put T t).2.1 = 0 ∧ (put T t).1 = T) := by
  by_cases h : errOf T t = 0
  · exact ⟨by rw [h]; exact (put_at h hl).1, fun hn => absurd h hn⟩
  · rw [put_bad rfl h]; exact ⟨rfl, fun _ => ⟨rfl, rfl⟩⟩

end Go.Proofs.YtoclhecldmahiaaDoor

/-
  Terms: sealed, boxed, signed: opened with just the key.
-/
set_option linter.unusedVariables false
set_option linter.unusedSimpArgs false
namespace Go.Proofs.YtoclhecldmahiaaDoor
open Go.Lf Go.RowKit

theorem build_len (l : List Stp) : (buildT l).length ≤ 150 := by
  have : ∀ (l : List Stp) (T : List Tm), (l.foldl (fun T x => (put T (stepT T x)).1) T).length ≤ T.length + l.length := by
    intro l
    induction l with
    | nil => intro T; simp
    | cons x l ih =>
      intro T
      have h1 := ih (put T (stepT T x)).1
      have h2 := put_len T (stepT T x)
      simp only [List.foldl_cons, List.length_cons]
      omega
  have h := this (l.take 150) []
  rw [List.length_take] at h
  unfold buildT
  simp only [List.length_nil] at h
  omega

theorem err_ok {T : List Tm} {t : Tm} (h1 : 1 ≤ t.kind ∧ t.kind ≤ 9) (h2 : t.n = 0) (h3 : least t.kind ≤ t.args.length) (h4 : t.args.length ≤ mostOf t.kind) (h5 : ∀ x ∈ t.args, inT T x) : errOf T t = 0 := by
  unfold errOf
  rw [if_neg (by omega), if_neg (by rw [h2]; omega), if_neg (by omega), if_neg (fun h => h h5)]

end Go.Proofs.YtoclhecldmahiaaDoor

/-
  Terms: what is beneath, of both arenas: contracts.
-/
set_option linter.unusedVariables false
set_option linter.unusedSimpArgs false
namespace Go.Proofs.YtoclhecldmahiaaDoor
open Go.Lf Go.RowKit

theorem dec {k : Nat} (h : k < 9223372036854775807) : IntKind.i64.wrap (((k + 1 : Nat) : Int) - 1) = (k : Int) := by rw [w64 (by omega)]; omega

theorem ok_down {T : List Tm} (h : TOk T) : Down T := by
  intro n hn x hx
  exact (ok_at h (at_nat hn).1).2.2.2.2.1 x hx

/-! turned round -/

def swapped (xs : List Int) (i m : Nat) : Int := if m < i ∨ xs.length < m + 1 + i then xs[xs.length - 1 - m]?.getD 0 else xs[m]?.getD 0

abbrev boolA (s : Sl) (bs : List Bool) : Asn := rowA 4 1 s bs.length (bs.map Value.bool)

theorem _root_.Go.Lf.Sep.boolAt {B : Nat} {w : World} {l : List Asn} (k : Nat) {s : Sl} {bs : List Bool} (hk : l[k]? = some (boolA s bs)) (h : Sep B w l) {j : Nat} (hj : j < bs.length) : ∃ q, s.a = some q ∧ w.cell? (q.add j) = some (.bool (bs[j]?.getD false)) := by
  obtain ⟨q, hq, hc⟩ := h.rowCell k hk (j := j) (by rw [List.length_map]; exact hj)
  exact ⟨q, hq, hc j _ (by rw [List.getElem?_map, List.getElem?_eq_getElem hj]; rfl)⟩
theorem _root_.Go.Lf.Sep.boolSet {B : Nat} {w : World} {l : List Asn} (k : Nat) {s : Sl} {bs : List Bool} (hk : l[k]? = some (boolA s bs)) (h : Sep B w l) {q : Addr} (hq : s.a = some q) {j : Nat} (hj : j < bs.length) (b : Bool) :
    Wr w (q.add j) ∧ Sep B (w.setCell (q.add j) (.bool b)) (l.set k (boolA s (bs.set j b))) ∧ Below B w (w.setCell (q.add j) (.bool b)) := by
  refine ⟨h.rowWr k hk hq (by rw [List.length_map]; exact hj), ?_⟩
  have := h.rowSet k hk hq (j := j) (by rw [List.length_map]; exact hj) (.bool b)
  unfold boolA
  rw [List.map_set, List.length_set]
  exact this

theorem _root_.Go.Lf.Sep.bools {B : Nat} {w : World} {R : List Asn} (h : Sep B w R) {n : Nat} (hn : n ≤ 1000000000) :
    Sep B (w.alloc (.cells ((Array.range (n * 1)).map ((#[.bool false] : Array Value)[· % (#[.bool false] : Array Value).size]!)) 4)) (boolA ⟨some (newA w), n, n⟩ (List.replicate n false) :: R) ∧ Below B w (w.alloc (.cells ((Array.range (n * 1)).map ((#[.bool false] : Array Value)[· % (#[.bool false] : Array Value).size]!)) 4)) := by
  rw [range_cells]
  have hb := below_alloc w (.cells (List.replicate n (Value.bool false)).toArray 4)
  refine ⟨?_, hb.mono h.le⟩
  have := h.row (e := 4) (size := 1) (s := ⟨some (newA w), n, n⟩) (n := n) (vs := List.replicate n (Value.bool false)) (row_made (n := n) (by simp) (by unfold maxLen; omega)) hb
  unfold boolA
  rw [List.length_replicate, List.map_replicate]
  exact this

theorem range'_filter (p : Nat → Bool) (n k : Nat) : (List.range' n (k + 1)).filter p = if p n = true then n :: (List.range' (n + 1) k).filter p else (List.range' (n + 1) k).filter p := by
  rw [List.range'_succ, List.filter_cons]

theorem own_more {B : Nat} {w : World} {l : List Asn} (k : Nat) {s : Sl} {xs : List Int} (hk : l[k]? = some (ownA s xs)) (h : Sep B w l) (x : Int) (hx : xs.length ≤ 100000000) :
    ∃ (s' : Sl) (w' : World), (builtin .append #[29, 29] 29 #[] #[.slice s.a s.len s.cap, .slice (some (newA w)) 1 1]).run Tryd.prog (w.alloc (.cells #[.int .i64 x] 3)) = .ok (.value (.slice s'.a s'.len s'.cap)) w' ∧ Sep B w' (l.set k (ownA s' (xs ++ [x]))) ∧ Below B w w' := by
  obtain ⟨i, hi, hz, hsz, hby⟩ := t3
  have hb1 := below_alloc w (.cells #[.int .i64 x] 3)
  have h1 := h.keep hb1
  obtain ⟨s', w', hr, _, h2, hb2⟩ := Sep.append (ty := 29) (c := 1) (m := 1) Tryd.underlying29 hi hz hsz hby rfl (by omega) k hk h1 (a := newA w) (news := [.int .i64 x]) rfl (fun j u hu => by rw [← hu]; exact (cell_new w #[.int .i64 x] 3 j).trans (by simp))
    (by intro u hu; simp at hu; subst hu; rfl) (by unfold maxLen; omega) (by omega) (by omega)
  refine ⟨s', w', hr, ?_, (hb1.mono h.le).trans hb2⟩
  unfold ownA
  rw [List.map_append, List.length_append]
  exact h2

end Go.Proofs.YtoclhecldmahiaaDoor

/-
  Terms: what is beneath, of the page: contract.
-/
set_option linter.unusedVariables false
set_option linter.unusedSimpArgs false
namespace Go.Proofs.YtoclhecldmahiaaDoor
open Go.Lf Go.RowKit

theorem filt_le (p : Nat → Bool) (k : Nat) : (((List.range k).filter p).map fun k => ((k : Nat) : Int)).length ≤ k := by
  rw [List.length_map]
  have := List.length_filter_le p (List.range k)
  rwa [List.length_range] at this
theorem filt_more (p : Nat → Bool) (k : Nat) : ((List.range (k + 1)).filter p).map (fun k => ((k : Nat) : Int)) = ((List.range k).filter p).map (fun k => ((k : Nat) : Int)) ++ (if p k = true then [(k : Int)] else []) := by
  rw [List.range_succ, List.filter_append, List.map_append]
  congr 1
  by_cases h : p k = true
  · rw [if_pos h]; simp [h]
  · rw [if_neg h]; simp [h]

end Go.Proofs.YtoclhecldmahiaaDoor

/-
  Terms: what is told is the caller's own; what is opened, and what is beneath, is the page's.
-/
set_option linter.unusedVariables false
set_option linter.unusedSimpArgs false
namespace Go.Proofs.YtoclhecldmahiaaDoor
open Go.Lf Go.RowKit

theorem under_len (T : List Tm) (i : Nat) : (underT T i).length ≤ i + 1 := by
  unfold underT
  exact filt_le _ _

/-- a node held against the page's -/
theorem node_same {B : Nat} {w w4 : World} {a b : Addr} {Na Nb : Nds} {k : Nat} {q0 : Addr} {s4 : Sl} (hN : terms Nb = terms Na) (hk : k < (terms Na).length)
    (h7 : Sep B w4 [boxA q0 (tmC (tmAt (terms Na) (k : Int)) s4), ownA s4 (tmAt (terms Na) (k : Int)).args, arA a Na, pgA b Nb]) :
    ∃ (q : Addr) (sl sx : Sl), w4.cell? b = some (.slice sl.a sl.len sl.cap) ∧ (k : Int) < ((sl.len : Nat) : Int) ∧ sl.a = some q ∧ w4.cell? (q.add (((k : Nat) : Int).toNat * 3)) = some (.int .i64 (tmAt (terms Na) (k : Int)).kind) ∧
      w4.cell? ((q.add (((k : Nat) : Int).toNat * 3)).add 1) = some (.int .i64 (tmAt (terms Na) (k : Int)).n) ∧ w4.cell? ((q.add (((k : Nat) : Int).toNat * 3)).add 2) = some (.slice sx.a sx.len sx.cap) ∧
      Ints .i64 w4 s4 (tmAt (terms Na) (k : Int)).args ∧ Ints .i64 w4 sx (tmAt (terms Na) (k : Int)).args := by
  have h7f : Sep B w4 [pgA b Nb, boxA q0 (tmC (tmAt (terms Na) (k : Int)) s4), ownA s4 (tmAt (terms Na) (k : Int)).args, arA a Na] := h7.front 3 rfl
  obtain ⟨hin, hat⟩ := at_nat hk
  have hok := pgOk h7f
  rw [hN] at hok
  have hargs := (ok_at hok hin).2.2.2.1
  have hm := most_le (tmAt (terms Na) (k : Int)).kind
  obtain ⟨sl, _, hS⟩ := h7f.unfold
  have hS : Sep B w4 (pgL 98 b Nb sl ++ [boxA q0 (tmC (tmAt (terms Na) (k : Int)) s4), ownA s4 (tmAt (terms Na) (k : Int)).args, arA a Na]) := hS
  have hsl : sl.len = Nb.length := (hS.rowLen 1 rfl).1
  obtain ⟨sx, hx⟩ := terms_of (N := Nb) (by rw [hN]; exact hat)
  obtain ⟨q, hq, hc⟩ := hS.rowGet 1 (by omega) nodeC.w rfl hx
  have hc0 := hc 0 _ rfl
  rw [add_zero] at hc0
  rw [← hN, terms_len] at hk
  exact ⟨q, sl, sx, hS.cell0 0 rfl rfl, by omega, hq, hc0, hc 1 _ rfl, hc 2 _ rfl, rowInts 1 rfl h7 (by omega), argsAt 2 rfl hS hx⟩

theorem len_openT (T : List Tm) (h : TOk T) (i k : Int) : (openT T i k).1.length ≤ 400 ∧ (unboxT T i k).1.length ≤ 400 ∧ (signedT T i k).1.length ≤ 400 := by
  have key : inT T i → ∀ m, ((tmAt T i).args.drop m).length ≤ 400 := fun hi m => by
    have h1 := (ok_at h hi).2.2.2.1
    have h2 := most_le (tmAt T i).kind
    rw [List.length_drop]; omega
  refine ⟨?_, ?_, ?_⟩
  · unfold openT
    by_cases hc : inT T i ∧ inT T k
    · rw [if_neg (fun h => h hc)]
      split
      · simp
      · split
        · simp
        · exact key hc.1 1
    · rw [if_pos hc]; simp
  · unfold unboxT
    by_cases hc : inT T i ∧ inT T k
    · rw [if_neg (fun h => h hc)]
      split
      · simp
      · split
        · simp
        · split
          · simp
          · exact key hc.1 2
    · rw [if_pos hc]; simp
  · unfold signedT
    by_cases hc : inT T i ∧ inT T k
    · rw [if_neg (fun h => h hc)]
      split
      · simp
      · split
        · simp
        · split
          · simp
          · exact key hc.1 1
    · rw [if_pos hc]; simp

end Go.Proofs.YtoclhecldmahiaaDoor

/-
  Terms: what is beneath a term is it, all its arguments, and what is beneath these; nothing else.
-/
set_option linter.unusedVariables false
set_option linter.unusedSimpArgs false
namespace Go.Proofs.YtoclhecldmahiaaDoor
open Go.Lf Go.RowKit

theorem under_in {T : List Tm} (hd : Down T) {i : Nat} (hi : i < T.length) {x : Int} (hx : x ∈ underT T i) : 0 ≤ x ∧ x < T.length := by
  obtain ⟨k, rfl, hu⟩ := (under_mem hd hi).1 hx
  have := hu.le hd hi
  omega

theorem want_more (T : List Tm) (bs : List Bool) (args : List Int) (a : Int) : wantL T bs (args ++ [a]) = markL (wantL T bs args) (underT T a.toNat) := by simp [wantL]

end Go.Proofs.YtoclhecldmahiaaDoor
