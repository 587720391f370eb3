/-
  Know: a node that is looked at, what is learnt: contracts.
-/
import Derived.Test.YtoclhecldmahiaaDoorAtA
import Derived.Test.YtoclhecldmahiaaDoorLiftB
import Derived.Test.YtoclhecldmahiaaDoorKwFns
set_option linter.unusedVariables false
set_option linter.unusedVariables false
set_option linter.unusedSimpArgs false
namespace Go.Proofs.YtoclhecldmahiaaDoor
open Go.Lf Go.RowKit

structure KSl where
  is : Sl
  wait : Sl
  left : Sl
  above : Sl
  pubs : Sl
  boxes : Sl
  keys : Sl

def knL (k a : Addr) (st : KS) (s : KSl) : List Asn :=
  [boxA k [.pointer (some a), .slice s.is.a s.is.len s.is.cap, .slice s.wait.a s.wait.len s.wait.cap, .slice s.left.a s.left.len s.left.cap, .slice s.above.a s.above.len s.above.cap, .slice s.pubs.a s.pubs.len s.pubs.cap, .slice s.boxes.a s.boxes.len s.boxes.cap, .slice s.keys.a s.keys.len s.keys.cap],
   boolA s.is st.is, ownA s.wait (toI st.wait), ownA s.left st.left]

set_option maxRecDepth 100000 in
theorem learn_spec {B : Nat} {w : World} {k a : Addr} {st : KS} {ks : KSl} {R : List Asn} (h : Sep B w (knL k a st ks ++ R)) {s : Sl} {xs : List Nat} (hx : ∀ x ∈ xs, x < st.is.length) (hl : st.wait.length + xs.length ≤ 100000000)
    (hI : ∀ L w', Sep B w' (L ++ R) → Below B w w' → Ints .i64 w' s (toI xs)) :
    CallsV Tryd.prog n_know_knower_learn #[.pointer (some k), .slice s.a s.len s.cap] w fun v w' => v = .tuple #[] ∧ (∃ sw, Sep B w' (knL k a (learnL st xs) { ks with wait := sw } ++ R)) ∧ Below B w w' := by
  refine know_knower_learn.lift ?_
  have hlen := (hI _ w h (Below.refl _ _)).len
  rw [toI_len] at hlen
  unfold know_knower_learn.main know_knower_learn.l1
  refine ⟨fun t w' => ∃ j : Nat, t = j ∧ j ≤ xs.length ∧ (learnL st (xs.take j)).is.length = st.is.length ∧ (learnL st (xs.take j)).wait.length ≤ st.wait.length + j ∧ (∃ sw, Sep B w' (knL k a (learnL st (xs.take j)) { ks with wait := sw } ++ R)) ∧ Below B w w', fun t _ => xs.length - t.toNat,
    ⟨0, rfl, Nat.zero_le _, rfl, by simp [learnL], ⟨ks.wait, h⟩, Below.refl _ _⟩, ?_⟩
  rintro _ w1 ⟨j, rfl, hj, hil, hwl, ⟨sw, h1⟩, hb1⟩
  unfold know_knower_learn.b1
  refine cond_d (p := ((j : Nat) : Int) < ((s.len : Nat) : Int)) (fun hlt => ?_) fun hge => ?_
  · have hj' : j < xs.length := by omega
    have hI1 := hI _ w1 h1 hb1
    obtain ⟨q, hq, hc⟩ := hI1.get (i := (j : Int)) (by omega) hlt
    rw [Int.toNat_natCast, toI_at hj', Option.getD_some] at hc
    have hxj := hx _ (List.getElem_mem hj')
    have hnext : learnL st (xs.take (j + 1)) = learn1 (learnL st (xs.take j)) xs[j] := by
      unfold learnL
      rw [List.take_succ_eq_append_getElem hj', List.foldl_append]; rfl
    generalize hst : learnL st (xs.take j) = s1 at h1 hil hwl hnext
    have hisl : ks.is.len = s1.is.length := (h1.rowLen 1 rfl).1
    obtain ⟨q1, hq1, hc1⟩ := h1.boolAt 1 rfl (j := xs[j]) (by omega)
    refine ⟨by omega, by omega, q, hq, _, by rw [Int.toNat_natCast]; exact hc, k, rfl, _, _, _, h1.cell 0 rfl 1 rfl, by omega, by (try simp only); omega, q1, hq1, _, by rw [Int.toNat_natCast]; exact hc1, cond_not (fun hf => ?_) fun ht => ?_⟩
    · have hnh : ¬ s1.has xs[j] := by unfold KS.has; rw [hf]; simp
      have hn2 : learn1 s1 xs[j] = { s1 with is := s1.is.set xs[j] true, wait := s1.wait ++ [xs[j]] } := by unfold learn1; rw [if_neg hnh]
      obtain ⟨wr2, h2, hb2⟩ := h1.boolSet 1 rfl hq1 (j := xs[j]) (by omega) true
      refine ⟨k, rfl, _, _, _, h1.cell 0 rfl 1 rfl, by omega, by (try simp only); omega, q1, hq1, by rw [Int.toNat_natCast]; exact wr2, ?_⟩
      rw [Int.toNat_natCast]
      intro w2
      have h2 : Sep B w2 (knL k a { s1 with is := s1.is.set xs[j] true } { ks with wait := sw } ++ R) := h2
      have hb2 : Below B w1 w2 := hb2
      clear_value w2
      refine ⟨k, rfl, _, _, _, h2.cell 0 rfl 2 rfl, ?_⟩
      intro w3
      obtain ⟨s4, w4, hr4, h4, hb4⟩ := own_more 2 rfl h2 ((xs[j] : Nat) : Int) (by rw [toI_len]; (try simp only); omega)
      refine ⟨_, _, _, _, hr4, k, rfl, h4.wr 0 rfl (j := 2) (by simp), ?_⟩
      obtain ⟨h5, hb5⟩ := h4.set 0 rfl (j := 2) (by simp) (.slice s4.a s4.len s4.cap)
      rw [inc (by omega)]
      refine ⟨⟨rfl, rfl, rfl, j + 1, rfl, by omega, by rw [hnext, hn2]; simp [hil], by rw [hnext, hn2]; simp; omega, ⟨s4, ?_⟩, ((hb1.trans hb2).trans hb4).trans hb5⟩, by (try dsimp only); omega⟩
      rw [hnext, hn2]
      unfold knL at h5 ⊢
      rw [toI_app]
      exact h5
    · have hh : s1.has xs[j] := ht
      have hn2 : learn1 s1 xs[j] = s1 := by unfold learn1; rw [if_pos hh]
      rw [inc (by omega)]
      exact ⟨⟨rfl, rfl, rfl, j + 1, rfl, by omega, by rw [hnext, hn2]; exact hil, by rw [hnext, hn2]; omega, ⟨sw, by rw [hnext, hn2]; exact h1⟩, hb1⟩, by (try dsimp only); omega⟩
  · rw [List.take_of_length_le (by omega)] at h1
    exact ⟨rfl, ⟨sw, h1⟩, hb1⟩

end Go.Proofs.YtoclhecldmahiaaDoor

/-
  Know: what is inside, what is open: contracts.
-/
set_option linter.unusedVariables false
set_option linter.unusedSimpArgs false
namespace Go.Proofs.YtoclhecldmahiaaDoor
open Go.Lf Go.RowKit

theorem toI_ar {T : List Tm} (h : TOk T) {i : Nat} (hi : i < T.length) : toI (ar T i) = (tmAt T (i : Int)).args := by
  unfold toI ar
  rw [List.map_map]
  have h5 := (okAt h hi).2.2.2.2.2.1
  have : ∀ (l : List Int), (∀ x ∈ l, 0 ≤ x ∧ x < i) → l.map ((fun k => ((k : Nat) : Int)) ∘ Int.toNat) = l := by
    intro l
    induction l with
    | nil => intro _; rfl
    | cons x r ih =>
      intro hl
      have hx := hl x (by simp)
      rw [List.map_cons, ih fun y hy => hl y (by simp [hy])]
      show (((x.toNat : Nat) : Int) :: r) = _
      rw [Int.toNat_of_nonneg hx.1]
  exact this _ h5
theorem toI_drop (l : List Nat) (m : Nat) : toI (l.drop m) = (toI l).drop m := by simp [toI]

theorem arFind {B : Nat} {w : World} {p : Addr} {N : Nds} {L R : List Asn} (h : Sep B w (L ++ (arA p N :: R))) : Sep B w (arA p N :: (L ++ R)) := h.perm List.perm_middle


theorem inside_spec {B : Nat} {w : World} {k a : Addr} {st : KS} {ks : KSl} {N : Nds} {R : List Asn} (h : Sep B w (knL k a st ks ++ (arA a N :: R))) {i : Nat} (hi : i < (terms N).length)
    (hk : kd (terms N) i = 6 ∨ kd (terms N) i = 7) :
    CallsV Tryd.prog n_know_knower_inside #[.pointer (some k), .int .i64 (i : Int)] w fun v w' => (∃ s' : Sl, v = .slice s'.a s'.len s'.cap ∧ ∀ L R' w', Sep B w' (L ++ (arA a N :: R')) → Ints .i64 w' s' (toI (inside (terms N) i))) ∧ Below w.heap.size w w' := by
  refine know_knower_inside.lift ?_
  unfold know_knower_inside.main
  have hok := arOk (arFind h)
  obtain ⟨sx, hx⟩ := node_at hi
  obtain ⟨_, k1, k2, k3, k4, k5, _⟩ := okAt hok hi
  have hn : i ≤ 1048576 := by have := hok.few; omega
  have hml := most_le (kd (terms N) i)
  refine ⟨k, rfl, some a, h.cell0 0 rfl rfl, (at_spec (arFind h) hx hn).mono ?_⟩
  rintro _ w1 ⟨rfl, hb1⟩
  refine ⟨_, _, _, _, _, rfl, ?_⟩
  intro w2
  refine ⟨fun j hj => wr_new _ _ _ (by simpa using hj), ?_⟩
  intro w3
  have e3 : w3 = w1.alloc (.cells #[.int .i64 (tmAt (terms N) (i : Int)).kind, .int .i64 (tmAt (terms N) (i : Int)).n, .slice sx.a sx.len sx.cap] 98) := box_set3
  clear_value w3
  have hb3 : Below w1.heap.size w1 w3 := by rw [e3]; exact below_alloc _ _
  have n0 : w3.cell? (newA w1) = some (.int .i64 (tmAt (terms N) (i : Int)).kind) := by rw [e3]; exact cell_new0 _ _ _
  have n2 : w3.cell? ((newA w1).add 2) = some (.slice sx.a sx.len sx.cap) := by rw [e3]; exact cell_new _ _ _ 2
  obtain ⟨hI0, hcap⟩ := arArgs (arFind h) hx
  have hlen := hI0.len
  have hlen : sx.len = (tmAt (terms N) (i : Int)).args.length := hlen
  have hcap : sx.len ≤ sx.cap := hcap
  have sub : ∀ m : Nat, m ≤ (tmAt (terms N) (i : Int)).args.length → ∀ L R' w', Sep B w' (L ++ (arA a N :: R')) → Ints .i64 w' (subSl sx m) (toI ((ar (terms N) i).drop m)) := by
    intro m hm L R' w' hs
    rw [toI_drop, toI_ar hok hi]
    exact drop_ints (arArgs (arFind hs) hx).1 hcap m hm
  refine ⟨_, n0, cond_e (fun h7 => ?_) fun h7 => ?_⟩
  · have h7 : kd (terms N) i = 7 := h7
    have l2 : 2 ≤ (tmAt (terms N) (i : Int)).args.length := by rw [h7] at k3; exact k3
    refine ⟨_, _, _, n2, by omega, by omega, by omega, by omega, ⟨subSl sx 2, rfl, fun L R' w' hs => ?_⟩, hb1.then hb3⟩
    unfold inside
    rw [if_pos h7]
    exact sub 2 l2 L R' w' hs
  · have h6 : kd (terms N) i = 6 := by
      rcases hk with h6 | h7'
      · exact h6
      · exact absurd h7' h7
    have l1 : 1 ≤ (tmAt (terms N) (i : Int)).args.length := by rw [h6] at k3; exact k3
    refine ⟨_, _, _, n2, by omega, by omega, by omega, by omega, ⟨subSl sx 1, rfl, fun L R' w' hs => ?_⟩, hb1.then hb3⟩
    unfold inside
    rw [if_neg (by rw [h6]; decide)]
    exact sub 1 l1 L R' w' hs

theorem arg_n {T : List Tm} (hok : TOk T) {i : Nat} (hi : i < T.length) {j : Nat} (hj : j < (tmAt T (i : Int)).args.length) : (tmAt T (i : Int)).args[j]?.getD 0 = (((ar T i)[j]?.getD 0 : Nat) : Int) ∧ (ar T i)[j]?.getD 0 < i := by
  have hl : j < (ar T i).length := by rw [ar_len]; exact hj
  have h1 := toI_ar hok hi
  have h2 : (toI (ar T i))[j]? = some (((ar T i)[j] : Nat) : Int) := toI_at hl
  rw [h1] at h2
  rw [h2, List.getElem?_eq_getElem hl]
  refine ⟨rfl, hok.kt.down i hi _ (List.getElem_mem hl)⟩

theorem has_bool (st : KS) (j : Nat) : st.is[j]?.getD false = decide (st.has j) := by
  by_cases h : st.has j
  · rw [decide_eq_true h]; exact h
  · rw [decide_eq_false h]
    cases hb : st.is[j]?.getD false with
    | false => rfl
    | true => exact absurd hb h

set_option maxRecDepth 100000 in
theorem opens_know_spec {B : Nat} {w : World} {k a : Addr} {st : KS} {ks : KSl} {N : Nds} {R : List Asn} (h : Sep B w (knL k a st ks ++ (arA a N :: R))) {i : Nat} (hi : i < (terms N).length) (hil : st.is.length = (terms N).length)
    (hk : kd (terms N) i = 6 ∨ kd (terms N) i = 7) :
    CallsV Tryd.prog n_know_knower_opens #[.pointer (some k), .int .i64 (i : Int)] w fun v w' => v = .bool (decide (opensK (terms N) st i)) ∧ Sep B w' (knL k a st ks ++ (arA a N :: R)) ∧ Below B w w' := by
  refine know_knower_opens.lift ?_
  unfold know_knower_opens.main
  have hok := arOk (arFind h)
  obtain ⟨sx, hx⟩ := node_at hi
  obtain ⟨_, k1, k2, k3, k4, k5, _⟩ := okAt hok hi
  have hn : i ≤ 1048576 := by have := hok.few; omega
  refine ⟨k, rfl, some a, h.cell0 0 rfl rfl, (at_spec (arFind h) hx hn).mono ?_⟩
  rintro _ w1 ⟨rfl, hb1⟩
  refine ⟨_, _, _, _, _, rfl, ?_⟩
  intro w2
  refine ⟨fun j hj => wr_new _ _ _ (by simpa using hj), ?_⟩
  intro w3
  have h1 := h.keep hb1
  have e3 : w3 = w1.alloc (.cells #[.int .i64 (tmAt (terms N) (i : Int)).kind, .int .i64 (tmAt (terms N) (i : Int)).n, .slice sx.a sx.len sx.cap] 98) := box_set3
  clear_value w3
  obtain ⟨h3, hb3⟩ := h1.box [.int .i64 (tmAt (terms N) (i : Int)).kind, .int .i64 (tmAt (terms N) (i : Int)).n, .slice sx.a sx.len sx.cap] 98
  have hb3' : Below w1.heap.size w1 w3 := by rw [e3]; exact below_alloc _ _
  have e3' : (w1.alloc (.cells [Value.int .i64 (tmAt (terms N) (i : Int)).kind, .int .i64 (tmAt (terms N) (i : Int)).n, .slice sx.a sx.len sx.cap].toArray 98)) = w3 := e3.symm
  rw [e3'] at h3
  generalize newA w1 = tb at h3 ⊢
  have hbw3 : Below B w w3 := (hb1.then hb3').mono h.le
  -- what a place of 'is' holds
  have isAt : ∀ (l : List Asn) (y : World) (j : Nat), Sep B y (l ++ (knL k a st ks ++ (arA a N :: R))) → j < st.is.length → ∃ q, ks.is.a = some q ∧ y.cell? (q.add j) = some (.bool (decide (st.has j))) := by
    intro l y j hs hj
    obtain ⟨q, hq, hc⟩ := (Sep.dropL hs).boolAt 1 rfl (j := j) hj
    refine ⟨q, hq, ?_⟩
    rw [hc]
    rw [has_bool]
  have hisl : ks.is.len = st.is.length := (h.rowLen 1 rfl).1
  have hIx : ∀ (l : List Asn) (y : World), Sep B y (l ++ (knL k a st ks ++ (arA a N :: R))) → Ints .i64 y sx (tmAt (terms N) (i : Int)).args := by
    intro l y hs
    rw [← List.append_assoc] at hs
    exact (arArgs (arFind hs) hx).1
  have hlen := (hIx [] w h).len
  refine ⟨_, h3.cell0 0 rfl rfl, cond_e (fun h6 => ?_) fun h6 => ?_⟩
  · have h6 : kd (terms N) i = 6 := h6
    have l1 : 1 ≤ (tmAt (terms N) (i : Int)).args.length := by rw [h6] at k3; exact k3
    obtain ⟨g1, g2⟩ := arg_n hok hi (j := 0) (by omega)
    obtain ⟨q, hq, hc⟩ := (hIx [_] w3 h3).get (i := 0) (by omega) (by omega)
    have hc : w3.cell? (q.add (0 : Int).toNat) = some (.int .i64 ((a0 (terms N) i : Nat) : Int)) := by rw [hc]; congr 2
    have ha0 : a0 (terms N) i < i := g2
    obtain ⟨q2, hq2, hc2⟩ := isAt [_] w3 (a0 (terms N) i) h3 (by omega)
    refine ⟨k, rfl, _, _, _, h3.cell 1 rfl 1 rfl, _, _, _, h3.cell 0 rfl 2 rfl, by omega, by omega, q, hq, _, hc, by omega, by omega, q2, hq2, _, by rw [Int.toNat_natCast]; exact hc2, ?_, h3.drew.drop, hbw3.trans ((Same.drew _).below B)⟩
    congr 1
    rw [decide_eq_decide]
    unfold opensK
    rw [if_pos h6]
  · have h7 : kd (terms N) i = 7 := by
      rcases hk with h6' | h7
      · exact absurd h6' h6
      · exact h7
    have l2 : 2 ≤ (tmAt (terms N) (i : Int)).args.length := by rw [h7] at k3; exact k3
    obtain ⟨g1, g2⟩ := arg_n hok hi (j := 0) (by omega)
    obtain ⟨g3, g4⟩ := arg_n hok hi (j := 1) (by omega)
    have ha0 : a0 (terms N) i < i := g2
    have ha1 : a1 (terms N) i < i := g4
    have hp : a0 (terms N) i < (terms N).length := by omega
    obtain ⟨sy, hy⟩ := node_at hp
    obtain ⟨_, p1, p2, p3, p4, p5, _⟩ := okAt hok hp
    have h4 := h3.drew
    have x0 : ∀ (l : List Asn) (y : World), Sep B y (l ++ (knL k a st ks ++ (arA a N :: R))) → ∃ q, sx.a = some q ∧ y.cell? (q.add (0 : Int).toNat) = some (.int .i64 ((a0 (terms N) i : Nat) : Int)) := by
      intro l y hs
      obtain ⟨q, hq, hc⟩ := (hIx l y hs).get (i := 0) (by omega) (by omega)
      exact ⟨q, hq, by rw [hc]; congr 2⟩
    have x1 : ∀ (l : List Asn) (y : World), Sep B y (l ++ (knL k a st ks ++ (arA a N :: R))) → ∃ q, sx.a = some q ∧ y.cell? (q.add (1 : Int).toNat) = some (.int .i64 ((a1 (terms N) i : Nat) : Int)) := by
      intro l y hs
      obtain ⟨q, hq, hc⟩ := (hIx l y hs).get (i := 1) (by omega) (by omega)
      exact ⟨q, hq, by rw [hc]; congr 2⟩
    obtain ⟨q0, hq0, _⟩ := x0 [_] _ h4
    -- the end, whatever order
    have fin : ∀ (w6 : World) (tc : Addr), Sep B w6 (boxA tc (tmC (tmAt (terms N) ((a0 (terms N) i : Nat) : Int)) sy) :: boxA tb (tmC (tmAt (terms N) (i : Int)) sx) :: (knL k a st ks ++ (arA a N :: R))) → Below B w w6 →
        ∃ q_35 : Addr, some k = some q_35 ∧
        ∃ (a_36 : Option Addr) (l_37 c_38 : Nat), w6.cell? (q_35.add 1) = some (.slice a_36 l_37 c_38) ∧
        ∃ (a_39 : Option Addr) (l_40 c_41 : Nat), w6.cell? (tb.add 2) = some (.slice a_39 l_40 c_41) ∧
        0 ≤ (1 : Int) ∧ 1 < ((l_40 : Nat) : Int) ∧ ∃ q_42 : Addr, a_39 = some q_42 ∧
        ∃ x_43 : Int, w6.cell? (q_42.add (1 : Int).toNat) = some (.int .i64 x_43) ∧
        0 ≤ (x_43 : Int) ∧ x_43 < ((l_37 : Nat) : Int) ∧ ∃ q_44 : Addr, a_36 = some q_44 ∧
        ∃ b_45 : Bool, w6.cell? (q_44.add (x_43 : Int).toNat) = some (.bool b_45) ∧
        cond b_45
        (Value.bool true = .bool (decide (opensK (terms N) st i)) ∧ Sep B w6.drew (knL k a st ks ++ (arA a N :: R)) ∧ Below B w w6.drew)
        (∃ x_46 : Int, w6.cell? tc = some (.int .i64 x_46) ∧
        cond ((x_46 : Int) == 5)
        (∃ q_47 : Addr, some k = some q_47 ∧
        ∃ (a_48 : Option Addr) (l_49 c_50 : Nat), w6.cell? (q_47.add 1) = some (.slice a_48 l_49 c_50) ∧
        ∃ (a_51 : Option Addr) (l_52 c_53 : Nat), w6.cell? (tc.add 2) = some (.slice a_51 l_52 c_53) ∧
        0 ≤ (0 : Int) ∧ 0 < ((l_52 : Nat) : Int) ∧ ∃ q_54 : Addr, a_51 = some q_54 ∧
        ∃ x_55 : Int, w6.cell? (q_54.add (0 : Int).toNat) = some (.int .i64 x_55) ∧
        0 ≤ (x_55 : Int) ∧ x_55 < ((l_49 : Nat) : Int) ∧ ∃ q_56 : Addr, a_48 = some q_56 ∧
        ∃ b_57 : Bool, w6.cell? (q_56.add (x_55 : Int).toNat) = some (.bool b_57) ∧
        (Value.bool b_57 = .bool (decide (opensK (terms N) st i)) ∧ Sep B w6.drew (knL k a st ks ++ (arA a N :: R)) ∧ Below B w w6.drew))
        (Value.bool false = .bool (decide (opensK (terms N) st i)) ∧ Sep B w6.drew (knL k a st ks ++ (arA a N :: R)) ∧ Below B w w6.drew)) := by
      intro w6 tc h6' hb6
      obtain ⟨q1, hq1, hc1⟩ := x1 [_, _] w6 h6'
      obtain ⟨q2, hq2, hc2⟩ := isAt [_, _] w6 (a1 (terms N) i) h6' (by omega)
      have hop : opensK (terms N) st i ↔ st.has (a1 (terms N) i) ∨ kd (terms N) (a0 (terms N) i) = 5 ∧ st.has (a0 (terms N) (a0 (terms N) i)) := by
        unfold opensK; rw [if_neg (by rw [h7]; decide)]
      refine ⟨k, rfl, _, _, _, h6'.cell 2 rfl 1 rfl, _, _, _, h6'.cell 1 rfl 2 rfl, by omega, by omega, q1, hq1, _, hc1, by omega, by omega, q2, hq2, _, by rw [Int.toNat_natCast]; exact hc2, cond_c (fun hb => ?_) fun hb => ?_⟩
      · have hb := of_decide_eq_true hb
        exact ⟨by rw [decide_eq_true (hop.2 (.inl hb))], h6'.drew.drop.drop, hb6.trans ((Same.drew _).below B)⟩
      · have hb := of_decide_eq_false hb
        refine ⟨_, h6'.cell0 0 rfl rfl, cond_e (fun h5 => ?_) fun h5 => ?_⟩
        · have h5 : kd (terms N) (a0 (terms N) i) = 5 := h5
          have l1 : 1 ≤ (tmAt (terms N) ((a0 (terms N) i : Nat) : Int)).args.length := by rw [h5] at p3; exact p3
          obtain ⟨g5, g6⟩ := arg_n hok hp (j := 0) (by omega)
          have hIy : Ints .i64 w6 sy (tmAt (terms N) ((a0 (terms N) i : Nat) : Int)).args := by
            have hs : Sep B w6 (([boxA tc (tmC (tmAt (terms N) ((a0 (terms N) i : Nat) : Int)) sy), boxA tb (tmC (tmAt (terms N) (i : Int)) sx)] ++ knL k a st ks) ++ (arA a N :: R)) := h6'
            exact (arArgs (arFind hs) hy).1
          have hly := hIy.len
          obtain ⟨q3, hq3, hc3⟩ := hIy.get (i := 0) (by omega) (by omega)
          have hc3 : w6.cell? (q3.add (0 : Int).toNat) = some (.int .i64 ((a0 (terms N) (a0 (terms N) i) : Nat) : Int)) := by rw [hc3]; congr 2
          have ha00 : a0 (terms N) (a0 (terms N) i) < a0 (terms N) i := g6
          obtain ⟨q4, hq4, hc4⟩ := isAt [_, _] w6 (a0 (terms N) (a0 (terms N) i)) h6' (by omega)
          refine ⟨k, rfl, _, _, _, h6'.cell 2 rfl 1 rfl, _, _, _, h6'.cell 0 rfl 2 rfl, by omega, by omega, q3, hq3, _, hc3, by omega, by omega, q4, hq4, _, by rw [Int.toNat_natCast]; exact hc4, ?_, h6'.drew.drop.drop, hb6.trans ((Same.drew _).below B)⟩
          congr 1
          rw [decide_eq_decide, hop]
          constructor
          · exact fun h => .inr ⟨h5, h⟩
          · rintro (h | ⟨_, h⟩)
            · exact absurd h hb
            · exact h
        · refine ⟨?_, h6'.drew.drop.drop, hb6.trans ((Same.drew _).below B)⟩
          rw [decide_eq_false]
          rw [hop]
          rintro (h | ⟨h, _⟩)
          · exact hb h
          · exact h5 h
    have hbw4 : Below B w w3.drew := hbw3.trans ((Same.drew _).below B)
    refine ⟨fun y => Sep B y (boxA tb (tmC (tmAt (terms N) (i : Int)) sx) :: (knL k a st ks ++ (arA a N :: R))), h4, k, rfl, some a, fun y hy => hy.cell0 1 rfl rfl, _, _, _, fun y hy => hy.cell 0 rfl 2 rfl, by omega, by omega, q0, hq0, ((a0 (terms N) i : Nat) : Int), fun y hs => ?_, ?_, ?_⟩
    · obtain ⟨q, hq, hc⟩ := x0 [_] y hs
      rw [hq0] at hq
      obtain rfl := Option.some.inj hq
      exact hc
    · have hs4 : Sep B w3.drew ((boxA tb (tmC (tmAt (terms N) (i : Int)) sx) :: knL k a st ks) ++ (arA a N :: R)) := h4
      refine (at_spec (arFind hs4) hy (by omega)).mono ?_
      rintro _ w4 ⟨rfl, hb4⟩
      refine ⟨_, _, _, _, _, rfl, ?_⟩
      intro w5
      obtain ⟨r5, h6', b6⟩ := Sep.tmp3 (h4.keep hb4) 98 (.int .i64 0) (.int .i64 0) (.slice none 0 0) (.int .i64 (tmAt (terms N) ((a0 (terms N) i : Nat) : Int)).kind) (.int .i64 (tmAt (terms N) ((a0 (terms N) i : Nat) : Int)).n) (.slice sy.a sy.len sy.cap)
      refine ⟨r5, ?_⟩
      intro w6
      refine fin w6 (newA w4) h6' ?_
      exact (hbw4.trans (hb4.mono h4.le)).trans b6
    · intro w7
      obtain ⟨h7', b7⟩ := h4.box [.int .i64 0, .int .i64 0, .slice none 0 0] 98
      have hb7 : Below w3.drew.heap.size w3.drew w7 := below_alloc _ _
      have h7' : Sep B w7 (boxA (newA w3.drew) [.int .i64 0, .int .i64 0, .slice none 0 0] :: boxA tb (tmC (tmAt (terms N) (i : Int)) sx) :: (knL k a st ks ++ (arA a N :: R))) := h7'
      refine ⟨h7'.drop, ?_⟩
      have hs7 : Sep B w7 ((boxA (newA w3.drew) [.int .i64 0, .int .i64 0, .slice none 0 0] :: boxA tb (tmC (tmAt (terms N) (i : Int)) sx) :: knL k a st ks) ++ (arA a N :: R)) := h7'
      refine (at_spec (arFind hs7) hy (by omega)).mono ?_
      rintro _ w8 ⟨rfl, hb8⟩
      refine ⟨_, _, _, _, _, rfl, ?_⟩
      have h8 := h7'.keep hb8
      obtain ⟨r9, h9, b9⟩ := Sep.sets3 0 rfl h8 (.int .i64 (tmAt (terms N) ((a0 (terms N) i : Nat) : Int)).kind) (.int .i64 (tmAt (terms N) ((a0 (terms N) i : Nat) : Int)).n) (.slice sy.a sy.len sy.cap)
      refine ⟨r9, ?_⟩
      intro w9
      exact fin w9 (newA w3.drew) h9 (((hbw4.trans b7).trans (hb8.mono h7'.le)).trans b9)

end Go.Proofs.YtoclhecldmahiaaDoor

/-
  Know: what follows: contract.
-/
set_option linter.unusedVariables false
set_option linter.unusedSimpArgs false
namespace Go.Proofs.YtoclhecldmahiaaDoor
open Go.Lf Go.RowKit

theorem exists_least {p : Nat → Prop} (h : ∃ m, p m) : ∃ m, p m ∧ ∀ k, p k → m ≤ k := by
  obtain ⟨m, hm⟩ := h
  induction m using Nat.strongRecOn with
  | _ m ih =>
    by_cases hk : ∃ k, k < m ∧ p k
    · obtain ⟨k, hk, hp⟩ := hk
      exact ih k hk hp
    · refine ⟨m, hm, fun k hp => ?_⟩
      rcases Nat.lt_or_ge k m with h | h
      · exact absurd ⟨k, h, hp⟩ hk
      · exact h
noncomputable def leastOf (p : Nat → Prop) : Nat := by
  classical
  exact if h : ∃ m, p m then Classical.choose (exists_least h) else 0
theorem leastOf_spec {p : Nat → Prop} (h : ∃ m, p m) : p (leastOf p) ∧ ∀ k, p k → leastOf p ≤ k := by
  unfold leastOf
  rw [dif_pos h]
  exact Classical.choose_spec (exists_least h)

theorem nodup_len : ∀ (n : Nat) (l : List Nat), l.Nodup → (∀ x ∈ l, x < n) → l.length ≤ n
  | 0, [], _, _ => Nat.le_refl _
  | 0, x :: r, _, h => absurd (h x (by simp)) (by omega)
  | n + 1, l, hd, h => by
    by_cases hn : n ∈ l
    · have h1 := nodup_len n (l.erase n) (hd.erase n) fun x hx => by
        have h2 := h x (List.mem_of_mem_erase hx)
        have : x ≠ n := fun e => by
          subst e
          exact (List.Nodup.not_mem_erase hd) hx
        omega
      rw [List.length_erase_of_mem hn] at h1
      omega
    · have := nodup_len n l hd fun x hx => by
        have h2 := h x hx
        have : x ≠ n := fun e => hn (e ▸ hx)
        omega
      omega

/-- the last one is taken off -/
theorem own_less {B : Nat} {w : World} {l : List Asn} (k : Nat) {s : Sl} {xs : List Int} {x : Int} (hk : l[k]? = some (ownA s (xs ++ [x]))) (h : Sep B w l) :
    Sep B w (l.set k (ownA ⟨if (((s.cap : Nat) : Int)).toNat = (0 : Int).toNat then s.a else s.a.map (·.add (0 : Int).toNat), xs.length, ((s.cap : Nat) : Int).toNat - (0 : Int).toNat⟩ xs)) := by
  have hs : (⟨if (((s.cap : Nat) : Int)).toNat = (0 : Int).toNat then s.a else s.a.map (·.add (0 : Int).toNat), xs.length, ((s.cap : Nat) : Int).toNat - (0 : Int).toNat⟩ : Sl) = ⟨s.a, xs.length, s.cap⟩ := by
    have : s.a.map (fun (p : Addr) => p.add (0 : Int).toNat) = s.a := by cases s.a with
      | none => rfl
      | some q => simp [add_zero]
    rw [this]
    simp
  rw [hs]
  obtain ⟨F, ⟨h1, h2⟩, hF, back⟩ := h.at k hk
  refine back ⟨?_, h2⟩ (Chg.refl _ _) fun i hi => ⟨.inl hi, (hF i hi).2⟩
  obtain ⟨g1, g2⟩ := h1
  rcases g2 with ⟨g2, g3⟩ | ⟨g, cap, cur, g2, g3, g4, g5, g6, g7, g8⟩
  · simp at g3
  · simp only [Value.slice.injEq] at g2
    refine ⟨by simp, .inr ⟨g, cap, cur, ?_, g3, g4, ?_, g6, g7, ?_⟩⟩
    · simp only [Value.slice.injEq]
      exact ⟨g2.1, trivial, g2.2.2⟩
    · simp at g5; omega
    · have h9 : (cur.toList.take ((xs ++ [x]).length * 1)).take (xs.length * 1) = ((xs ++ [x]).map (Value.int .i64)).take (xs.length * 1) := by rw [g8]
      rw [List.take_take] at h9
      simp at h9 ⊢
      rw [← h9]

structure Tabs where
  above : List Sl
  boxes : List Sl
  keys : List Sl

def slC (s : Sl) : Value := .slice s.a s.len s.cap
def pubI (T : List Tm) (y : Nat) : Int := match pubsT T y with | some p => (p : Int) | none => -1

structure TabOk (T : List Tm) (t : Tabs) (L : List (Sl × List Int)) : Prop where
  la : t.above.length = T.length
  lb : t.boxes.length = T.length
  lk : t.keys.length = T.length
  inA : ∀ (y : Nat) (s : Sl), t.above[y]? = some s → (s, toI (aboveT T y)) ∈ L
  inB : ∀ (y : Nat) (s : Sl), t.boxes[y]? = some s → (s, toI (boxesT T y)) ∈ L
  inK : ∀ (y : Nat) (s : Sl), t.keys[y]? = some s → (s, toI (sealsT T y)) ∈ L

def tabL (T : List Tm) (ks : KSl) (t : Tabs) (L : List (Sl × List Int)) : List Asn :=
  [rowA 29 1 ks.above T.length (t.above.map slC), rowA 3 1 ks.pubs T.length ((List.range T.length).map fun y => .int .i64 (pubI T y)), rowA 29 1 ks.boxes T.length (t.boxes.map slC), rowA 29 1 ks.keys T.length (t.keys.map slC), intsAll .i64 L]

theorem rowAt {B : Nat} {w : World} {l : List Asn} (k : Nat) {e : TypeId} {s : Sl} {n : Nat} {vs : List Value} (hk : l[k]? = some (rowA e 1 s n vs)) (h : Sep B w l) {j : Nat} {u : Value} (hj : vs[j]? = some u) : s.len = n ∧ ∃ q, s.a = some q ∧ w.cell? (q.add j) = some u := by
  refine ⟨(h.rowLen k hk).1, ?_⟩
  obtain ⟨q, hq, hc⟩ := h.rowCell k hk (j := j) (List.getElem?_eq_some_iff.1 hj).1
  exact ⟨q, hq, hc j u hj⟩

end Go.Proofs.YtoclhecldmahiaaDoor

/-
  Know: what follows, piece by piece: contracts.
-/
set_option linter.unusedVariables false
set_option linter.unusedSimpArgs false
namespace Go.Proofs.YtoclhecldmahiaaDoor
open Go.Lf Go.RowKit

def ms (st : KS) : Nat := st.wait.length + st.is.count false

structure KB (n : Nat) (st : KS) : Prop where
  len : st.is.length = n
  few : ms st ≤ n

theorem KB.wait {n : Nat} {st : KS} (h : KB n st) : st.wait.length ≤ n := by have := h.few; unfold ms at this; omega

theorem learn1_kb {n : Nat} {st : KS} (h : KB n st) {x : Nat} (hx : x < n) : KB n (learn1 st x) := by
  unfold learn1
  by_cases hh : st.has x
  · rw [if_pos hh]; exact h
  · rw [if_neg hh]
    have hlt : x < st.is.length := by rw [h.len]; exact hx
    have hf : st.is[x] = false := by
      unfold KS.has at hh
      rw [List.getElem?_eq_getElem hlt, Option.getD_some] at hh
      simpa using hh
    refine ⟨by simp [h.len], ?_⟩
    have hpos : 0 < st.is.count false := List.count_pos_iff.2 (hf ▸ List.getElem_mem hlt)
    have := h.few
    unfold ms at this ⊢
    simp only [List.length_append, List.length_singleton]
    rw [List.count_set hlt, hf]
    simp
    omega
theorem learnL_kb {n : Nat} : ∀ (l : List Nat) {st : KS}, KB n st → (∀ x ∈ l, x < n) → KB n (learnL st l)
  | [], st, h, _ => h
  | x :: l, st, h, hl => learnL_kb l (learn1_kb h (hl x (by simp))) fun y hy => hl y (by simp [hy])

theorem inside_len {T : List Tm} (hok : TOk T) {i : Nat} (hi : i < T.length) : (∀ x ∈ ar T i, x < T.length) ∧ (∀ x ∈ inside T i, x < T.length) ∧ (inside T i).length ≤ 400 ∧ (ar T i).length ≤ 400 := by
  have h1 : ∀ x ∈ ar T i, x < T.length := fun x hx => by have := hok.kt.down i hi x hx; omega
  have h2 : (ar T i).length ≤ 400 := by
    rw [ar_len]
    have h4 := (okAt hok hi).2.2.2.2.1
    have := most_le (kd T i)
    omega
  refine ⟨h1, fun x hx => h1 x ?_, ?_, h2⟩
  · unfold inside at hx
    split at hx <;> exact List.mem_of_mem_drop hx
  · unfold inside
    split <;> rw [List.length_drop] <;> omega

section
variable {B : Nat} {k a : Addr} {ks : KSl} {N : Nds} {R : List Asn}

/-- a node's args, as they stand in the arena -/
theorem nodeInts {y : World} {L : List Asn} {i : Nat} {sx : Sl} (hok : TOk (terms N)) (hi : i < (terms N).length) (hx : N[i]? = some (tmAt (terms N) (i : Int), sx)) (hs : Sep B y (L ++ (arA a N :: R))) : Ints .i64 y sx (toI (ar (terms N) i)) := by
  rw [toI_ar hok hi]
  exact (arArgs (arFind hs) hx).1

set_option maxRecDepth 100000 in
theorem self_piece {w : World} {st : KS} (hok : TOk (terms N)) (hkb : KB (terms N).length st) (h : Sep B w (knL k a st ks ++ (arA a N :: R))) {i : Nat} (hi : i < (terms N).length) {RR : Value → World → Prop} {N1 : Option Addr → World → Prop}
    (hN : ∀ sw w', Sep B w' (knL k a (selfK (terms N) st i) { ks with wait := sw } ++ (arA a N :: R)) → Below B w w' → KB (terms N).length (selfK (terms N) st i) → N1 (some k) w') :
    know_knower_follow.c3 RR N1 (some k) (i : Int) w := by
  unfold know_knower_follow.c3
  obtain ⟨sx, hx⟩ := node_at hi
  obtain ⟨_, k1, k2, k3, k4, k5, _⟩ := okAt hok hi
  have hfew := hok.few
  have hn : i ≤ 1048576 := by omega
  obtain ⟨il1, il2, il3, il4⟩ := inside_len hok hi
  have hwl := hkb.wait
  refine ⟨k, rfl, some a, h.cell0 0 rfl rfl, (at_spec (arFind h) hx hn).mono ?_⟩
  rintro _ w4 ⟨rfl, hb4⟩
  refine ⟨_, _, _, _, _, rfl, ?_⟩
  intro w5
  obtain ⟨r5, h6, b6⟩ := Sep.tmp3 (h.keep hb4) 98 (.int .i64 0) (.int .i64 0) (.slice none 0 0) (.int .i64 (tmAt (terms N) (i : Int)).kind) (.int .i64 (tmAt (terms N) (i : Int)).n) (.slice sx.a sx.len sx.cap)
  refine ⟨r5, ?_⟩
  intro w6
  have h6 : Sep B w6 (boxA (newA w4) (tmC (tmAt (terms N) (i : Int)) sx) :: (knL k a st ks ++ (arA a N :: R))) := h6
  have hB6 : Below B w w6 := (hb4.mono h.le).trans b6
  clear_value w6
  generalize newA w4 = tb at h6 ⊢
  have h6k : Sep B w6 (knL k a st ks ++ (arA a N :: R)) := h6.drop
  have hI0 := (arArgs (arFind h) hx)
  have hlen : sx.len = (tmAt (terms N) (i : Int)).args.length := hI0.1.len
  have hcap : sx.len ≤ sx.cap := hI0.2
  have sub : ∀ m : Nat, m ≤ (tmAt (terms N) (i : Int)).args.length → ∀ L w', Sep B w' (L ++ (arA a N :: R)) → Below B w6 w' → Ints .i64 w' (subSl sx m) (toI ((ar (terms N) i).drop m)) := by
    intro m hm L w' hs _
    rw [toI_drop, toI_ar hok hi]
    exact drop_ints (arArgs (arFind hs) hx).1 hcap m hm
  refine ⟨_, h6.cell0 0 rfl rfl, cond_e (fun h9 => ?_) fun h9 => cond_e (fun h8 => ?_) fun h8 => ?_⟩
  · have h9 : kd (terms N) i = 9 := h9
    have es : selfK (terms N) st i = learnL st (ar (terms N) i) := by unfold selfK; rw [if_pos h9]
    refine ⟨_, _, _, h6.cell 0 rfl 2 rfl, (learn_spec (xs := ar (terms N) i) (s := sx) h6k (by rw [hkb.len]; exact il1) (by omega) (fun L w' hs _ => nodeInts hok hi hx hs)).mono ?_⟩
    rintro _ w7 ⟨rfl, ⟨sw, h7⟩, hb7⟩
    exact ⟨rfl, hN sw w7 (by rw [es]; exact h7) (hB6.trans hb7) (by rw [es]; exact learnL_kb _ hkb il1)⟩
  · have h8 : kd (terms N) i = 8 := h8
    have h9' : ¬ kd (terms N) i = 9 := h9
    have l1 : 1 ≤ (tmAt (terms N) (i : Int)).args.length := by rw [h8] at k3; exact k3
    have es : selfK (terms N) st i = learnL st ((ar (terms N) i).drop 1) := by unfold selfK; rw [if_neg h9', if_pos h8]
    have il1' : ∀ x ∈ (ar (terms N) i).drop 1, x < (terms N).length := fun x hx => il1 x (List.mem_of_mem_drop hx)
    refine ⟨_, _, _, h6.cell 0 rfl 2 rfl, by omega, by omega, by omega, by omega, (learn_spec (xs := (ar (terms N) i).drop 1) (s := subSl sx 1) h6k (by rw [hkb.len]; exact il1') (by rw [List.length_drop]; omega) (sub 1 l1)).mono ?_⟩
    rintro _ w7 ⟨rfl, ⟨sw, h7⟩, hb7⟩
    exact ⟨rfl, hN sw w7 (by rw [es]; exact h7) (hB6.trans hb7) (by rw [es]; exact learnL_kb _ hkb il1')⟩
  · have h9' : ¬ kd (terms N) i = 9 := h9
    have h8' : ¬ kd (terms N) i = 8 := h8
    have c2 : ∀ b : Bool, (b = decide (kd (terms N) i = 6 ∨ kd (terms N) i = 7)) → know_knower_follow.c2 RR N1 (some k) (i : Int) b w6 := by
      intro b hb
      unfold know_knower_follow.c2
      refine cond_c (fun ht => ?_) fun hf => ?_
      · have h67 : kd (terms N) i = 6 ∨ kd (terms N) i = 7 := of_decide_eq_true (by rw [← hb]; exact ht)
        refine (opens_know_spec h6k hi hkb.len h67).mono ?_
        rintro _ w7 ⟨rfl, h7, hb7⟩
        refine ⟨_, rfl, cond_c (fun ho => ?_) fun ho => ?_⟩
        · have ho := of_decide_eq_true ho
          have es : selfK (terms N) st i = learnL st (inside (terms N) i) := by unfold selfK; rw [if_neg h9', if_neg h8', if_pos h67, if_pos ho]
          refine (inside_spec h7 hi h67).mono ?_
          rintro _ w8 ⟨⟨s8, rfl, hI8⟩, hb8⟩
          have h8 := h7.keep hb8
          refine ⟨_, _, _, rfl, (learn_spec (xs := inside (terms N) i) (s := s8) h8 (by rw [hkb.len]; exact il2) (by omega) (fun L w' hs _ => hI8 L R w' hs)).mono ?_⟩
          rintro _ w9 ⟨rfl, ⟨sw, h9⟩, hb9⟩
          exact ⟨rfl, hN sw w9 (by rw [es]; exact h9) (((hB6.trans hb7).trans (hb8.mono h7.le)).trans hb9) (by rw [es]; exact learnL_kb _ hkb il2)⟩
        · have ho := of_decide_eq_false ho
          have es : selfK (terms N) st i = st := by unfold selfK; rw [if_neg h9', if_neg h8', if_pos h67, if_neg ho]
          exact hN ks.wait w7 (by rw [es]; exact h7) (hB6.trans hb7) (by rw [es]; exact hkb)
      · have h67 : ¬ (kd (terms N) i = 6 ∨ kd (terms N) i = 7) := of_decide_eq_false (by rw [← hb]; exact hf)
        have es : selfK (terms N) st i = st := by unfold selfK; rw [if_neg h9', if_neg h8', if_neg h67]
        exact hN ks.wait w6 (by rw [es]; exact h6k) hB6 (by rw [es]; exact hkb)
    refine cond_e (fun h6 => c2 _ ?_) fun h6 => c2 _ ?_
    · show decide _ = _
      rw [decide_eq_decide]
      exact ⟨fun h => .inl h, fun _ => h6⟩
    · show decide _ = _
      rw [decide_eq_decide]
      exact ⟨fun h => .inr h, fun h => h.resolve_left h6⟩
end

end Go.Proofs.YtoclhecldmahiaaDoor

/-
  Know: what follows: what is opened by it; what it is an arg of: contracts.
-/
set_option linter.unusedVariables false
set_option linter.unusedSimpArgs false
namespace Go.Proofs.YtoclhecldmahiaaDoor
open Go.Lf Go.RowKit

theorem selfK_kb {T : List Tm} (hok : TOk T) {st : KS} (h : KB T.length st) {i : Nat} (hi : i < T.length) : KB T.length (selfK T st i) := by
  obtain ⟨il1, il2, _, _⟩ := inside_len hok hi
  unfold selfK
  split
  · exact learnL_kb _ h il1
  · split
    · exact learnL_kb _ h fun x hx => il1 x (List.mem_of_mem_drop hx)
    · split
      · split
        · exact learnL_kb _ h il2
        · exact h
      · exact h
theorem keyed1_kb {T : List Tm} (hok : TOk T) {st : KS} (h : KB T.length st) {x : Nat} (hx : x < T.length) : KB T.length (keyed1 T st x) := by
  unfold keyed1
  split
  · exact learnL_kb _ h (inside_len hok hx).2.1
  · exact h
theorem dec1_kb {T : List Tm} {st : KS} (h : KB T.length st) {x : Nat} (hx : x < T.length) : KB T.length (dec1 st x) := by
  unfold dec1
  have h1 : ∀ l, KB T.length { st with left := l } := fun l => ⟨h.len, h.few⟩
  simp only
  split
  · exact learn1_kb (h1 _) hx
  · exact h1 _

section
variable {B : Nat} {k a : Addr} {ks : KSl} {N : Nds} {R : List Asn}

set_option maxRecDepth 100000 in
theorem keyed_piece {w : World} {st : KS} (hok : TOk (terms N)) (hkb : KB (terms N).length st) (h : Sep B w (knL k a st ks ++ (arA a N :: R))) {i : Nat} (hi : i < (terms N).length) {s : Sl} {xs : List Nat}
    (hxs : ∀ x ∈ xs, x < (terms N).length ∧ (kd (terms N) x = 6 ∨ kd (terms N) x = 7)) (hxl : xs.length ≤ 100000000) (hI : ∀ L w', Sep B w' (L ++ (arA a N :: R)) → Below B w w' → Ints .i64 w' s (toI xs)) {RR : Value → World → Prop} {N1 : Option Addr → World → Prop}
    (hN : ∀ sw w', Sep B w' (knL k a (selfK (terms N) (keyedL (terms N) st xs) i) { ks with wait := sw } ++ (arA a N :: R)) → Below B w w' → KB (terms N).length (selfK (terms N) (keyedL (terms N) st xs) i) → N1 (some k) w') :
    know_knower_follow.c5 RR N1 (some k) (i : Int) s w := by
  unfold know_knower_follow.c5 know_knower_follow.l4
  have hlen := (hI _ w h (Below.refl _ _)).len
  rw [toI_len] at hlen
  have hfew := hok.few
  refine ⟨fun t w' => ∃ j : Nat, t = j ∧ j ≤ xs.length ∧ KB (terms N).length (keyedL (terms N) st (xs.take j)) ∧ (∃ sw, Sep B w' (knL k a (keyedL (terms N) st (xs.take j)) { ks with wait := sw } ++ (arA a N :: R))) ∧ Below B w w', fun t _ => xs.length - t.toNat,
    ⟨0, rfl, Nat.zero_le _, hkb, ⟨ks.wait, h⟩, Below.refl _ _⟩, ?_⟩
  rintro _ w1 ⟨j, rfl, hj, hkb1, ⟨sw, h1⟩, hB1⟩
  unfold know_knower_follow.b4
  refine cond_d (p := ((j : Nat) : Int) < ((s.len : Nat) : Int)) (fun hlt => ?_) fun hge => ?_
  · have hj' : j < xs.length := by omega
    obtain ⟨hx1, hx67⟩ := hxs _ (List.getElem_mem hj')
    obtain ⟨q, hq, hc⟩ := (hI _ w1 h1 hB1).get (i := (j : Int)) (by omega) hlt
    rw [Int.toNat_natCast, toI_at hj', Option.getD_some] at hc
    have hnext : keyedL (terms N) st (xs.take (j + 1)) = keyed1 (terms N) (keyedL (terms N) st (xs.take j)) xs[j] := by
      unfold keyedL
      rw [List.take_succ_eq_append_getElem hj', List.foldl_append]; rfl
    generalize hst : keyedL (terms N) st (xs.take j) = s1 at h1 hkb1 hnext
    generalize xs[j] = x at hx1 hx67 hc hnext
    have hisl : ks.is.len = s1.is.length := (h1.rowLen 1 rfl).1
    have hl1 := hkb1.len
    have hwl := hkb1.wait
    obtain ⟨il1, il2, il3, il4⟩ := inside_len hok hx1
    obtain ⟨q1, hq1, hc1⟩ := h1.boolAt 1 rfl (j := x) (by omega)
    rw [has_bool] at hc1
    refine ⟨by omega, by omega, q, hq, _, by rw [Int.toNat_natCast]; exact hc, k, rfl, _, _, _, h1.cell 0 rfl 1 rfl, by omega, by (try simp only); omega, q1, hq1, _, by rw [Int.toNat_natCast]; exact hc1, cond_c (fun ht => ?_) fun hf => ?_⟩
    · have ht := of_decide_eq_true ht
      have hn2 : keyed1 (terms N) s1 x = learnL s1 (inside (terms N) x) := by unfold keyed1; rw [if_pos ht]
      refine (inside_spec h1 hx1 hx67).mono ?_
      rintro _ w2 ⟨⟨s2, rfl, hI2⟩, hb2⟩
      have h2 := h1.keep hb2
      refine ⟨_, _, _, rfl, (learn_spec (xs := inside (terms N) x) (s := s2) h2 (by rw [hl1]; exact il2) (by omega) (fun L w' hs _ => hI2 L R w' hs)).mono ?_⟩
      rintro _ w3 ⟨rfl, ⟨sw3, h3⟩, hb3⟩
      refine ⟨rfl, ?_⟩
      rw [inc (by omega)]
      exact ⟨⟨rfl, rfl, rfl, rfl, j + 1, rfl, by omega, by rw [hnext]; exact keyed1_kb hok hkb1 hx1, ⟨sw3, by rw [hnext, hn2]; exact h3⟩, (hB1.trans (hb2.mono h1.le)).trans hb3⟩, by (try dsimp only); omega⟩
    · have hf := of_decide_eq_false hf
      have hn2 : keyed1 (terms N) s1 x = s1 := by unfold keyed1; rw [if_neg hf]
      rw [inc (by omega)]
      exact ⟨⟨rfl, rfl, rfl, rfl, j + 1, rfl, by omega, by rw [hnext]; exact keyed1_kb hok hkb1 hx1, ⟨sw, by rw [hnext, hn2]; exact h1⟩, hB1⟩, by (try dsimp only); omega⟩
  · rw [List.take_of_length_le (by omega)] at h1 hkb1
    refine self_piece (st := keyedL (terms N) st xs) (ks := { ks with wait := sw }) hok hkb1 h1 hi fun sw' w' hs hb hk => ?_
    exact hN sw' w' hs (hB1.trans hb) hk

set_option maxRecDepth 100000 in
/-- the numbers of what is not worked off go down -/
theorem dec_piece {w : World} {st : KS} (hkb : KB (terms N).length st) (hfew : (terms N).length ≤ 1048576) (h : Sep B w (knL k a st ks ++ R)) {i : Nat} {s : Sl} {xs : List Nat}
    (hll : st.left.length = (terms N).length) (hxs : ∀ x ∈ xs, x < (terms N).length) (hxl : xs.length ≤ 1000000000) (hrng : ∀ (j x : Nat) (hj : j < xs.length), xs[j] = x → -1000000 ≤ (decL st (xs.take j)).left[x]?.getD 0 ∧ (decL st (xs.take j)).left[x]?.getD 0 ≤ 1000000000000) (hI : ∀ L w', Sep B w' (L ++ R) → Below B w w' → Ints .i64 w' s (toI xs)) {RR : Value → World → Prop} {N1 : Option Addr → World → Prop}
    (hN : ∀ sw w', Sep B w' (knL k a (decL st xs) { ks with wait := sw } ++ R) → Below B w w' → KB (terms N).length (decL st xs) → know_knower_follow.c6 RR N1 (some k) (i : Int) w') :
    know_knower_follow.l7 RR N1 (some k) (i : Int) s ((s.len : Nat) : Int) 0 w := by
  unfold know_knower_follow.l7
  have hlen := (hI _ w h (Below.refl _ _)).len
  rw [toI_len] at hlen
  refine ⟨fun t w' => ∃ j : Nat, t = j ∧ j ≤ xs.length ∧ KB (terms N).length (decL st (xs.take j)) ∧ (decL st (xs.take j)).left.length = (terms N).length ∧ (∃ sw, Sep B w' (knL k a (decL st (xs.take j)) { ks with wait := sw } ++ R)) ∧ Below B w w', fun t _ => xs.length - t.toNat,
    ⟨0, rfl, Nat.zero_le _, hkb, hll, ⟨ks.wait, h⟩, Below.refl _ _⟩, ?_⟩
  rintro _ w1 ⟨j, rfl, hj, hkb1, hll1, ⟨sw, h1⟩, hB1⟩
  unfold know_knower_follow.b7
  refine cond_d (p := ((j : Nat) : Int) < ((s.len : Nat) : Int)) (fun hlt => ?_) fun hge => ?_
  · have hj' : j < xs.length := by omega
    have hx1 := hxs _ (List.getElem_mem hj')
    obtain ⟨hr0, hr1⟩ := hrng j xs[j] hj' rfl
    obtain ⟨q, hq, hc⟩ := (hI _ w1 h1 hB1).get (i := (j : Int)) (by omega) hlt
    rw [Int.toNat_natCast, toI_at hj', Option.getD_some] at hc
    have hnext : decL st (xs.take (j + 1)) = dec1 (decL st (xs.take j)) xs[j] := by
      unfold decL
      rw [List.take_succ_eq_append_getElem hj', List.foldl_append]; rfl
    generalize hst : decL st (xs.take j) = s1 at h1 hkb1 hnext hll1 hr0 hr1
    generalize xs[j] = x at hx1 hc hnext hr0 hr1
    have hll2 : ks.left.len = s1.left.length := (h1.rowLen 3 rfl).1
    have hwl := hkb1.wait
    have hxl : x < s1.left.length := by omega
    rw [List.getElem?_eq_getElem hxl, Option.getD_some] at hr0 hr1
    obtain ⟨_, q1, hq1, hc1⟩ := rowAt 3 rfl h1 (j := x) (u := .int .i64 s1.left[x]) (by rw [List.getElem?_map, List.getElem?_eq_getElem hxl]; rfl)
    obtain ⟨h2, hb2⟩ := h1.rowSet 3 rfl hq1 (j := x) (by rw [List.length_map]; exact hxl) (.int .i64 (s1.left[x] - 1))
    have wr2 := h1.rowWr 3 rfl hq1 (j := x) (by rw [List.length_map]; exact hxl)
    have hws : IntKind.i64.wrap (s1.left[x] - 1) = s1.left[x] - 1 := w64 (by omega)
    refine ⟨by omega, by omega, q, hq, _, by rw [Int.toNat_natCast]; exact hc, k, rfl, _, _, _, h1.cell 0 rfl 3 rfl, by omega, by (try simp only); omega, q1, hq1, _, by rw [Int.toNat_natCast]; exact hc1, by omega, by (try simp only); omega, q1, hq1, by rw [Int.toNat_natCast]; exact wr2, ?_⟩
    rw [Int.toNat_natCast, hws]
    intro w2
    have h2 : Sep B w2 (knL k a { s1 with left := s1.left.set x (s1.left[x] - 1) } { ks with wait := sw } ++ R) := by
      have h3 := h2
      unfold knL ownA
      rw [List.map_set, List.length_set]
      exact h3
    have hb2 : Below B w1 w2 := hb2
    clear_value w2
    have hv : s1.left[x]?.getD 0 - 1 = s1.left[x] - 1 := by rw [List.getElem?_eq_getElem hxl, Option.getD_some]
    obtain ⟨_, q3, hq3, hc3⟩ := rowAt 3 rfl h2 (j := x) (u := .int .i64 (s1.left[x] - 1)) (by rw [List.getElem?_map]; simp [hxl])
    have hkb2 : KB (terms N).length { s1 with left := s1.left.set x (s1.left[x] - 1) } := ⟨hkb1.len, hkb1.few⟩
    refine ⟨k, rfl, _, _, _, h2.cell 0 rfl 3 rfl, by omega, by (try simp only); omega, q3, hq3, _, hc3, cond_e (fun hz => ?_) fun hz => ?_⟩
    · have hn2 : dec1 s1 x = learnL { s1 with left := s1.left.set x (s1.left[x] - 1) } [x] := by
        unfold dec1
        simp only [hv]
        rw [if_pos hz]; rfl
      intro w15
      have hb15 : Below w2.heap.size w2 w15 := below_alloc _ _
      have h15 : Sep B w15 (ownA ⟨some (newA w2), 1, 1⟩ [((x : Nat) : Int)] :: (knL k a { s1 with left := s1.left.set x (s1.left[x] - 1) } { ks with wait := sw } ++ R)) := Sep.row h2 (made_ints (xs := [((x : Nat) : Int)]) (by simp [maxLen])) hb15
      have h15' : Sep B w15 (knL k a { s1 with left := s1.left.set x (s1.left[x] - 1) } { ks with wait := sw } ++ (ownA ⟨some (newA w2), 1, 1⟩ [((x : Nat) : Int)] :: R)) := Sep.comm (l := [ownA ⟨some (newA w2), 1, 1⟩ [((x : Nat) : Int)]]) h15
      refine (learn_spec (xs := [x]) (s := ⟨some (newA w2), 1, 1⟩) h15' (by intro y hy; simp at hy; subst hy; show y < s1.is.length; rw [hkb1.len]; exact hx1) (by simp only [List.length_singleton]; omega) (fun L w' hs _ => rowInts (xs := [((x : Nat) : Int)]) 0 rfl (Sep.dropL hs) (by simp))).mono ?_
      rintro _ w16 ⟨rfl, ⟨sw3, h16⟩, hb16⟩
      refine ⟨rfl, ?_⟩
      rw [inc (by omega)]
      refine ⟨⟨rfl, rfl, rfl, rfl, j + 1, rfl, by omega, by rw [hnext]; exact dec1_kb hkb1 hx1, ?_, ⟨sw3, by rw [hnext, hn2]; exact Sep.mid (L := knL k a _ _) h16⟩, ((hB1.trans hb2).trans (hb15.mono h2.le)).trans hb16⟩, by (try dsimp only); omega⟩
      rw [hnext, hn2]
      unfold learnL learn1
      simp only [List.foldl_cons, List.foldl_nil]
      split <;> simp [hll1]
    · have hn2 : dec1 s1 x = { s1 with left := s1.left.set x (s1.left[x] - 1) } := by
        unfold dec1
        simp only [hv]
        rw [if_neg hz]
      rw [inc (by omega)]
      exact ⟨⟨rfl, rfl, rfl, rfl, j + 1, rfl, by omega, by rw [hnext]; exact dec1_kb hkb1 hx1, by rw [hnext, hn2]; simp [hll1], ⟨sw, by rw [hnext, hn2]; exact h2⟩, hB1.trans hb2⟩, by (try dsimp only); omega⟩
  · rw [List.take_of_length_le (by omega)] at h1 hkb1
    exact hN sw w1 h1 hB1 hkb1
end

end Go.Proofs.YtoclhecldmahiaaDoor

/-
  Know: what follows, all of it: contract.
-/
set_option linter.unusedVariables false
set_option linter.unusedSimpArgs false
namespace Go.Proofs.YtoclhecldmahiaaDoor
open Go.Lf Go.RowKit

def mP (n : Nat) (P : List Nat) : Nat := ((List.range n).filter fun j => decide (j ∉ P)).length
theorem mP_lt {n : Nat} {P : List Nat} {i : Nat} (hi : i < n) (hP : i ∉ P) : mP n (i :: P) < mP n P := by
  unfold mP
  have e : (List.range n).filter (fun j => decide (j ∉ i :: P)) = ((List.range n).filter fun j => decide (j ∉ P)).filter fun j => decide (j ≠ i) := by
    rw [List.filter_filter]
    refine List.filter_congr fun j _ => ?_
    rw [Bool.eq_iff_iff]
    simp
  rw [e, List.length_filter_lt_length_iff_exists]
  exact ⟨i, by simp [hi, hP], by simp⟩

theorem learn1_left (st : KS) (x : Nat) : (learn1 st x).left = st.left := by unfold learn1; split <;> rfl
theorem dec1_left {st : KS} {x y : Nat} (hx : x < st.left.length) : (dec1 st x).left.length = st.left.length ∧ (dec1 st x).left[y]?.getD 0 = st.left[y]?.getD 0 - (if x = y then 1 else 0) := by
  have key : (dec1 st x).left = st.left.set x (st.left[x]?.getD 0 - 1) := by
    unfold dec1
    simp only
    split
    · rw [learn1_left]
    · rfl
  rw [key, List.length_set, List.getElem?_set]
  refine ⟨rfl, ?_⟩
  by_cases h : x = y
  · subst h
    rw [if_pos rfl, if_pos hx, if_pos rfl, Option.getD_some]
  · rw [if_neg h, if_neg h, Int.sub_zero]
theorem decL_left : ∀ (l : List Nat) {st : KS} {y : Nat}, (∀ x ∈ l, x < st.left.length) → (decL st l).left.length = st.left.length ∧ (decL st l).left[y]?.getD 0 = st.left[y]?.getD 0 - l.count y
  | [], st, y, _ => ⟨rfl, by simp [decL]⟩
  | x :: l, st, y, h => by
    obtain ⟨e1, e2⟩ := dec1_left (y := y) (h x (by simp))
    obtain ⟨k1, k2⟩ := decL_left l (st := dec1 st x) (y := y) fun z hz => by rw [e1]; exact h z (by simp [hz])
    refine ⟨k1.trans e1, ?_⟩
    show (decL (dec1 st x) l).left[y]?.getD 0 = _
    rw [k2, e2, List.count_cons]
    by_cases hxy : x = y
    · subst hxy; simp; omega
    · simp [hxy]

theorem above_len {T : List Tm} (hok : TOk T) (y : Nat) : (aboveT T y).length ≤ 400 * T.length := by
  unfold aboveT
  have key : ∀ n, n ≤ T.length → ((List.range n).flatMap fun i => ((ar T i).filter fun z => decide (z = y)).map fun _ => i).length ≤ 400 * n := by
    intro n
    induction n with
    | zero => intro _; simp
    | succ n ih =>
      intro hn
      rw [List.range_succ, List.flatMap_append, List.length_append]
      have := ih (by omega)
      have h2 := (inside_len hok (i := n) (by omega)).2.2.2
      have h3 := List.length_filter_le (fun z => decide (z = y)) (ar T n)
      simp only [List.flatMap_cons, List.flatMap_nil, List.append_nil, List.length_map]
      omega
  exact key T.length (Nat.le_refl _)

theorem lack_le {T : List Tm} (hok : TOk T) (P : List Nat) {x : Nat} (hx : x < T.length) : lack T P x ≤ 400 := by
  unfold lack
  have h2 := (inside_len hok hx).2.2.2
  have h3 := List.length_filter_le (fun z => decide (z ∉ P)) (ar T x)
  omega

theorem keys_ok {T : List Tm} {i : Nat} : ∀ x ∈ keysT T i, x < T.length ∧ (kd T x = 6 ∨ kd T x = 7) := by
  intro x hx
  unfold keysT at hx
  rw [List.mem_append] at hx
  rcases hx with hx | hx
  · unfold sealsT at hx
    rw [List.mem_filter, List.mem_range] at hx
    rcases of_decide_eq_true hx.2 with ⟨h, _⟩ | ⟨h, _⟩
    · exact ⟨hx.1, .inr h⟩
    · exact ⟨hx.1, .inl h⟩
  · cases hp : pubsT T i with
    | none => rw [hp] at hx; cases hx
    | some p =>
      rw [hp] at hx
      unfold boxesT at hx
      rw [List.mem_filter, List.mem_range] at hx
      exact ⟨hx.1, .inr (of_decide_eq_true hx.2).1⟩

theorem filter_few (p : Nat → Bool) (n : Nat) : ((List.range n).filter p).length ≤ n := by
  have := List.length_filter_le p (List.range n)
  rwa [List.length_range] at this

set_option maxRecDepth 100000 in
theorem keys_piece {B : Nat} {k a : Addr} {ks : KSl} {N : Nds} {R : List Asn} {t : Tabs} {L0 : List (Sl × List Int)} {w : World} {st : KS} (hok : TOk (terms N)) (htab : TabOk (terms N) t L0) (hkb : KB (terms N).length st)
    (h : Sep B w (knL k a st ks ++ (arA a N :: (tabL (terms N) ks t L0 ++ R)))) {i : Nat} (hi : i < (terms N).length) {RR : Value → World → Prop} {N1 : Option Addr → World → Prop}
    (hN : ∀ sw w', Sep B w' (knL k a (selfK (terms N) (keyedL (terms N) st (keysT (terms N) i)) i) { ks with wait := sw } ++ (arA a N :: (tabL (terms N) ks t L0 ++ R))) → Below B w w' → KB (terms N).length (selfK (terms N) (keyedL (terms N) st (keysT (terms N) i)) i) → N1 (some k) w') :
    know_knower_follow.c6 RR N1 (some k) (i : Int) w := by
  have hfew := hok.few
  unfold know_knower_follow.c6
  obtain ⟨sk, hsk⟩ : ∃ s, t.keys[i]? = some s := ⟨_, List.getElem?_eq_getElem (by rw [htab.lk]; exact hi)⟩
  obtain ⟨l1, q1, hq1, c1⟩ := rowAt 8 rfl h (j := i) (u := slC sk) (by rw [List.getElem?_map, hsk]; rfl)
  obtain ⟨l2, q2, hq2, c2⟩ := rowAt 6 rfl h (j := i) (u := .int .i64 (pubI (terms N) i)) (by rw [List.getElem?_map, List.getElem?_range hi]; rfl)
  have hkI : ∀ L w', Sep B w' (L ++ (arA a N :: (tabL (terms N) ks t L0 ++ R))) → Ints .i64 w' sk (toI (sealsT (terms N) i)) := by
    intro L w' hs
    have hs' : Sep B w' ((L ++ [arA a N]) ++ (tabL (terms N) ks t L0 ++ R)) := by rw [List.append_assoc]; exact hs
    exact (Sep.dropL hs').intsAt 4 rfl (htab.inK i sk hsk)
  refine ⟨k, rfl, _, _, _, h.cell 0 rfl 7 rfl, by omega, by (try simp only); omega, q1, hq1, _, _, _, by rw [Int.toNat_natCast]; exact c1, k, rfl, _, _, _, h.cell 0 rfl 5 rfl, by omega, by (try simp only); omega, q2, hq2, _, by rw [Int.toNat_natCast]; exact c2, ?_⟩
  have hsl : (sealsT (terms N) i).length ≤ (terms N).length := filter_few _ _
  cases hp : pubsT (terms N) i with
  | none =>
    have hpi : pubI (terms N) i = -1 := by unfold pubI; rw [hp]
    have hkt : keysT (terms N) i = sealsT (terms N) i := by unfold keysT; rw [hp]; simp
    rw [hpi]
    refine cond_f' rfl ?_
    refine keyed_piece (xs := keysT (terms N) i) (s := sk) hok hkb h hi keys_ok (by rw [hkt]; omega) (fun L w' hs _ => by rw [hkt]; exact hkI L w' hs) hN
  | some p =>
    obtain ⟨p1, p2, p3⟩ := pubs_some hp
    have hpi : pubI (terms N) i = (p : Int) := by unfold pubI; rw [hp]
    have hkt : keysT (terms N) i = sealsT (terms N) i ++ boxesT (terms N) p := by unfold keysT; rw [hp]
    rw [hpi] at c2 ⊢
    refine cond_t (by simp) ?_
    have h2 := h.drew
    have hB2 : Below B w w.drew := (Same.drew w).below B
    obtain ⟨sb, hsb⟩ : ∃ s, t.boxes[p]? = some s := ⟨_, List.getElem?_eq_getElem (by rw [htab.lb]; exact p1)⟩
    obtain ⟨l3, q3, hq3, _⟩ := rowAt 7 rfl h2 (j := p) (u := slC sb) (by rw [List.getElem?_map, hsb]; rfl)
    have hbI : ∀ w', Sep B w' (knL k a st ks ++ (arA a N :: (tabL (terms N) ks t L0 ++ R))) → Ints .i64 w' sb (toI (boxesT (terms N) p)) := fun w' hs => (Sep.dropL (l := knL k a st ks ++ [arA a N]) (by rw [List.append_assoc]; exact hs)).intsAt 4 rfl (htab.inB p sb hsb)
    have hbl : (boxesT (terms N) p).length ≤ (terms N).length := filter_few _ _
    refine ⟨fun y => Sep B y (knL k a st ks ++ (arA a N :: (tabL (terms N) ks t L0 ++ R))), h2, k, rfl, _, _, _, fun y hy => hy.cell 0 rfl 6 rfl, k, rfl, _, _, _, fun y hy => hy.cell 0 rfl 5 rfl, by omega, by (try simp only); omega, q2, hq2, (p : Int), fun y hy => ?_, by omega, by (try simp only); omega, q3, hq3, sb.a, sb.len, sb.cap, fun y hy => ?_, ?_⟩
    · obtain ⟨_, q, hq, c⟩ := rowAt 6 rfl hy (j := i) (u := .int .i64 (p : Int)) (by rw [List.getElem?_map, List.getElem?_range hi]; show some (Value.int .i64 (pubI (terms N) i)) = _; rw [hpi])
      rw [hq2] at hq
      obtain rfl := Option.some.inj hq
      rw [Int.toNat_natCast]; exact c
    · obtain ⟨_, q, hq, c⟩ := rowAt 7 rfl hy (j := p) (u := slC sb) (by rw [List.getElem?_map, hsb]; rfl)
      rw [hq3] at hq
      obtain rfl := Option.some.inj hq
      rw [Int.toNat_natCast]; exact c
    intro w11
    have hb11 : Below w.drew.heap.size w.drew w11 := below_alloc _ _
    have h11 := h2.keep hb11
    obtain ⟨i3, hi3, hz3, hsz3, hby3⟩ := t3
    have ho11 : OwnI w.drew.heap.size 3 .i64 w11 ⟨some (newA w.drew), 0, 0⟩ [] := made_ints (xs := []) (by simp)
    refine ⟨h11, ?_⟩
    obtain ⟨s12, w12, hr12, ho12, hb12⟩ := append_more (ty := 29) Tryd.underlying29 hi3 hz3 hsz3 hby3 rfl ho11 hb11.size (hkI _ w11 h11) (by rw [toI_len]; unfold maxLen; simp only [List.length_nil]; omega) (by rw [toI_len]; simp only [List.length_nil]; omega)
    have hb12' : Below w.drew.heap.size w.drew w12 := hb11.trans hb12
    have h12 := h2.keep hb12'
    refine ⟨_, _, _, _, hr12, h12, ?_⟩
    obtain ⟨s13, w13, hr13, ho13, hb13⟩ := append_more (ty := 29) Tryd.underlying29 hi3 hz3 hsz3 hby3 rfl ho12 hb12'.size (hbI w12 h12) (by rw [toI_len, List.nil_append, toI_len]; unfold maxLen; omega) (by rw [toI_len, List.nil_append, toI_len]; omega)
    refine ⟨_, _, _, _, hr13, ?_⟩
    have hb13' : Below w.drew.heap.size w.drew w13 := hb12'.trans hb13
    have e13 : [] ++ toI (sealsT (terms N) i) ++ toI (boxesT (terms N) p) = toI (keysT (terms N) i) := by rw [hkt, toI_app]; rfl
    rw [e13] at ho13
    have h13 : Sep B w13 (ownA s13 (toI (keysT (terms N) i)) :: (knL k a st ks ++ (arA a N :: (tabL (terms N) ks t L0 ++ R)))) := Sep.row h2 ho13 hb13'
    have h14 : Sep B w13 ((knL k a st ks ++ [arA a N]) ++ (ownA s13 (toI (keysT (terms N) i)) :: (tabL (terms N) ks t L0 ++ R))) := Sep.comm (l := [ownA s13 (toI (keysT (terms N) i))]) (by rw [List.append_assoc]; exact h13)
    rw [List.append_assoc] at h14
    have hB13 : Below B w w13 := hB2.trans (hb13'.mono h2.le)
    refine keyed_piece (xs := keysT (terms N) i) (s := s13) hok hkb h14 hi keys_ok (by rw [hkt, List.length_append]; omega) (fun L w' hs _ => ?_) fun sw w' hs hb hk => hN sw w' ?_ (hB13.trans hb) hk
    · have hs' : Sep B w' ((L ++ [arA a N]) ++ (ownA s13 (toI (keysT (terms N) i)) :: (tabL (terms N) ks t L0 ++ R))) := by rw [List.append_assoc]; exact hs
      exact rowInts (xs := toI (keysT (terms N) i)) 0 rfl (Sep.dropL hs') (by rw [toI_len, hkt, List.length_append]; omega)
    · have hs' : Sep B w' ((knL k a (selfK (terms N) (keyedL (terms N) st (keysT (terms N) i)) i) { ks with wait := sw } ++ [arA a N]) ++ (ownA s13 (toI (keysT (terms N) i)) :: (tabL (terms N) ks t L0 ++ R))) := by rw [List.append_assoc]; exact hs
      have := Sep.mid hs'
      rw [List.append_assoc] at this
      exact this

end Go.Proofs.YtoclhecldmahiaaDoor

/-
  Know: what follows: the whole.
-/
set_option linter.unusedVariables false
set_option linter.unusedSimpArgs false
namespace Go.Proofs.YtoclhecldmahiaaDoor
open Go.Lf Go.RowKit

theorem ki_kb {T : List Tm} {S : Nat → Prop} {st : KS} {P : List Nat} (h : KI T S st P) (hb : KB T.length st) : st.wait.length ≤ T.length := hb.wait

theorem kb_pop {n : Nat} {st : KS} (h : KB n st) : KB n { st with wait := st.wait.dropLast } := by
  refine ⟨h.len, ?_⟩
  have := h.few
  unfold ms at this ⊢
  simp only [List.length_dropLast]
  omega

set_option maxRecDepth 100000 in
theorem follow_spec {B : Nat} {k a : Addr} {ks : KSl} {N : Nds} {R : List Asn} {t : Tabs} {L0 : List (Sl × List Int)} {w : World} {st : KS} {S : Nat → Prop} {P : List Nat} (hok : TOk (terms N)) (htab : TabOk (terms N) t L0) (hkb : KB (terms N).length st)
    (hki : KI (terms N) S st P) (hkc : KC (terms N) S st P) (h : Sep B w (knL k a st ks ++ (arA a N :: (tabL (terms N) ks t L0 ++ R)))) :
    CallsV Tryd.prog n_know_knower_follow #[.pointer (some k)] w fun v w' => v = .tuple #[] ∧ (∃ (bs : List Bool), bs.length = (terms N).length ∧ (∀ i, bs[i]?.getD false = true ↔ Kn (terms N) S i) ∧
      w'.cell? (k.add 1) = some (.slice ks.is.a ks.is.len ks.is.cap) ∧ Sep B w' (boolA ks.is bs :: arA a N :: R)) ∧ Below B w w' := by
  refine know_knower_follow.lift ?_
  have hfew := hok.few
  have hkt := hok.kt
  generalize hRR : (fun (v : Value) (w' : World) => v = .tuple #[] ∧ (∃ (bs : List Bool), bs.length = (terms N).length ∧ (∀ i, bs[i]?.getD false = true ↔ Kn (terms N) S i) ∧ w'.cell? (k.add 1) = some (.slice ks.is.a ks.is.len ks.is.cap) ∧ Sep B w' (boolA ks.is bs :: arA a N :: R)) ∧ Below B w w') = RR
  unfold know_knower_follow.main know_knower_follow.l1
  obtain ⟨I', hI'⟩ : ∃ I' : Nat → World → Prop, I' = fun m w' => ∃ (st : KS) (P : List Nat) (sw : Sl), m = mP (terms N).length P ∧ KB (terms N).length st ∧ KI (terms N) S st P ∧ KC (terms N) S st P ∧ Sep B w' (knL k a st { ks with wait := sw } ++ (arA a N :: (tabL (terms N) ks t L0 ++ R))) ∧ Below B w w' := ⟨_, rfl⟩
  refine ⟨fun k' w' => k' = some k ∧ ∃ m, I' m w', fun _ w' => leastOf fun m => I' m w', ⟨rfl, mP (terms N).length P, by rw [hI']; exact ⟨st, P, ks.wait, rfl, hkb, hki, hkc, h, Below.refl _ _⟩⟩, ?_⟩
  rintro _ w1 ⟨rfl, hex⟩
  obtain ⟨hm, hmin⟩ := leastOf_spec hex
  generalize hmm : leastOf (fun m => I' m w1) = m at hm hmin ⊢
  have hm1 := hm
  rw [hI'] at hm1
  obtain ⟨st1, P1, sw, hme, hkb1, hki1, hkc1, h1, hB1⟩ := hm1
  have back : ∀ (st2 : KS) (P2 : List Nat) (sw2 : Sl) (w2 : World), mP (terms N).length P2 < m → KB (terms N).length st2 → KI (terms N) S st2 P2 → KC (terms N) S st2 P2 → Sep B w2 (knL k a st2 { ks with wait := sw2 } ++ (arA a N :: (tabL (terms N) ks t L0 ++ R))) → Below B w w2 →
      ((some k = some k ∧ ∃ m, I' m w2) ∧ leastOf (fun m => I' m w2) < m) := by
    intro st2 P2 sw2 w2 hlt a1 a2 a3 a4 a5
    have hi2 : I' (mP (terms N).length P2) w2 := by rw [hI']; exact ⟨st2, P2, sw2, rfl, a1, a2, a3, a4, a5⟩
    exact ⟨⟨rfl, _, hi2⟩, Nat.lt_of_le_of_lt ((leastOf_spec ⟨_, hi2⟩).2 _ hi2) hlt⟩
  unfold know_knower_follow.b1
  have hwl : sw.len = st1.wait.length := by have := (h1.rowLen 2 rfl).1; rw [toI_len] at this; exact this
  have hwn := hkb1.wait
  refine ⟨k, rfl, _, _, _, h1.cell 0 rfl 2 rfl, cond_d (p := ((sw.len : Nat) : Int) > 0) (fun hpos => ?_) fun hz => ?_⟩
  · rcases List.eq_nil_or_concat st1.wait with he | ⟨w0, i, hw⟩
    · rw [he] at hwl; simp at hwl; omega
    have hw : st1.wait = w0 ++ [i] := by rw [hw]; simp
    have hw0 : w0.length + 1 = st1.wait.length := by rw [hw]; simp
    obtain ⟨q1, q2, q3, q4⟩ := pop_spec hkt hki1 hkc1 hw
    have hlast : IntKind.i64.wrap (((sw.len : Nat) : Int) - 1) = ((w0.length : Nat) : Int) := by rw [w64 (by omega)]; omega
    obtain ⟨_, qw, hqw, cw⟩ := rowAt 2 rfl h1 (j := w0.length) (u := .int .i64 (i : Int)) (by rw [hw, toI_app]; simp [toI])
    have h2 := h1.drew.drew
    have hB2 : Below B w w1.drew.drew := (hB1.trans ((Same.drew w1).below B)).trans ((Same.drew _).below B)
    have hcapw : sw.len ≤ sw.cap := by
      obtain ⟨F, hr, _⟩ := h1.get 2 rfl
      have hr : (rowA 3 1 sw (toI st1.wait).length ((toI st1.wait).map (Value.int .i64))).on F w1 := hr
      exact OwnI.cap (e := 3) (k := .i64) (xs := toI st1.wait) hr.1
    refine ⟨k, rfl, _, _, _, h1.cell 0 rfl 2 rfl, k, rfl, _, _, _, h1.cell 0 rfl 2 rfl, ?_⟩
    simp -zeta only [hlast]
    refine ⟨by omega, by omega, qw, hqw, (i : Int), by rw [Int.toNat_natCast]; exact cw, fun y => y = w1.drew.drew, rfl, k, rfl, _, _, _, fun y hy => by rw [hy]; exact h2.cell 0 rfl 2 rfl, k, rfl, _, _, _, fun y hy => by rw [hy]; exact h2.cell 0 rfl 2 rfl, ?_⟩
    simp -zeta only [hlast]
    refine ⟨by omega, by omega, by omega, by omega, k, rfl, h2.wr 0 rfl (j := 2) (by simp), ?_⟩
    have hown : (knL k a st1 { ks with wait := sw } ++ (arA a N :: (tabL (terms N) ks t L0 ++ R)))[2]? = some (ownA sw (toI w0 ++ [(i : Int)])) := by
      show some (ownA sw (toI st1.wait)) = _
      rw [hw, toI_app]; rfl
    have h3 := own_less 2 hown h2
    obtain ⟨h4, hb4⟩ := h3.set 0 rfl (j := 2) (by simp) (.slice (if (((sw.cap : Nat) : Int)).toNat = (0 : Int).toNat then sw.a else sw.a.map (·.add (0 : Int).toNat)) (((w0.length : Nat) : Int).toNat - (0 : Int).toNat) (((sw.cap : Nat) : Int).toNat - (0 : Int).toNat))
    intro w17
    have hlen0 : (toI w0).length = ((w0.length : Nat) : Int).toNat - (0 : Int).toNat := by rw [toI_len]; simp
    rw [hlen0] at h4
    have hs1 : st1.wait.dropLast = w0 := by rw [hw, List.dropLast_concat]
    have h4 : Sep B w17 (knL k a { st1 with wait := w0 } { ks with wait := ⟨if (((sw.cap : Nat) : Int)).toNat = (0 : Int).toNat then sw.a else sw.a.map (·.add (0 : Int).toNat), ((w0.length : Nat) : Int).toNat - (0 : Int).toNat, ((sw.cap : Nat) : Int).toNat - (0 : Int).toNat⟩ } ++ (arA a N :: (tabL (terms N) ks t L0 ++ R))) := h4
    have hB4 : Below B w w17 := hB2.trans hb4
    clear_value w17
    generalize (⟨if (((sw.cap : Nat) : Int)).toNat = (0 : Int).toNat then sw.a else sw.a.map (·.add (0 : Int).toNat), ((w0.length : Nat) : Int).toNat - (0 : Int).toNat, ((sw.cap : Nat) : Int).toNat - (0 : Int).toNat⟩ : Sl) = sw4 at h4
    obtain ⟨sa, hsa⟩ : ∃ s, t.above[i]? = some s := ⟨_, List.getElem?_eq_getElem (by rw [htab.la]; exact q4)⟩
    obtain ⟨l5, q5, hq5, c5⟩ := rowAt 5 rfl h4 (j := i) (u := slC sa) (by rw [List.getElem?_map, hsa]; rfl)
    refine ⟨k, rfl, _, _, _, h4.cell 0 rfl 4 rfl, by omega, by (try simp only); omega, q5, hq5, sa.a, sa.len, sa.cap, by rw [Int.toNat_natCast]; exact c5, ?_⟩
    have hkb4 : KB (terms N).length { st1 with wait := w0 } := by rw [← hs1]; exact kb_pop hkb1
    have hal := above_len hok i
    have hax : ∀ x ∈ aboveT (terms N) i, x < (terms N).length := fun x hx => (above_mem.1 hx).1
    refine dec_piece (N := N) (xs := aboveT (terms N) i) (s := sa) (ks := { ks with wait := sw4 }) hkb4 (by omega) h4 hki1.lenL hax (by omega) (fun j x hj hxj => ?_) (fun L w' hs _ => ?_) fun sw5 w5 h5 hb5 hkb5 => ?_
    · have hxn : x < (terms N).length := hax x (hxj ▸ List.getElem_mem hj)
      obtain ⟨_, e⟩ := decL_left ((aboveT (terms N) i).take j) (st := { st1 with wait := w0 }) (y := x) fun z hz => by show z < st1.left.length; rw [hki1.lenL]; exact hax z (List.mem_of_mem_take hz)
      rw [e]
      have e2 := hkc1.left x hxn
      have e3 := lack_le hok P1 hxn
      have e4 : ((aboveT (terms N) i).take j).count x ≤ (aboveT (terms N) i).count x := (List.take_sublist _ _).count_le _
      have e5 := above_count (terms N) i x hxn
      have e6 : (ar (terms N) x).count i ≤ (ar (terms N) x).length := List.count_le_length
      have e7 := (inside_len hok hxn).2.2.2
      show -1000000 ≤ st1.left[x]?.getD 0 - _ ∧ st1.left[x]?.getD 0 - _ ≤ _
      omega
    · have hs' : Sep B w' ((L ++ [arA a N]) ++ (tabL (terms N) ks t L0 ++ R)) := by rw [List.append_assoc]; exact hs
      exact (Sep.dropL hs').intsAt 4 rfl (htab.inA i sa hsa)
    · refine keys_piece (ks := { ks with wait := sw5 }) hok htab hkb5 h5 q4 fun sw6 w6 h6 hb6 hkb6 => ?_
      have epop : popK (terms N) st1 i = selfK (terms N) (keyedL (terms N) (decL { st1 with wait := w0 } (aboveT (terms N) i)) (keysT (terms N) i)) i := by unfold popK; rw [hs1]
      rw [← epop] at h6 hkb6
      have hb := back _ (i :: P1) sw6 w6 (by rw [hme]; exact mP_lt q4 q3) hkb6 q1 q2 h6 ((hB4.trans hb5).trans hb6)
      rw [← hmm] at hb
      exact hb
  · have hw0 : st1.wait = [] := List.length_eq_zero_iff.1 (by omega)
    rw [← hRR]
    refine ⟨rfl, ⟨st1.is, hkb1.len, know_done hki1 hkc1 hw0, h1.cell 0 rfl 1 rfl, ?_⟩, hB1⟩
    have h5 : Sep B w1 ([boolA ks.is st1.is, arA a N] ++ (R ++ (boxA k [.pointer (some a), .slice ks.is.a ks.is.len ks.is.cap, .slice sw.a sw.len sw.cap, .slice ks.left.a ks.left.len ks.left.cap, .slice ks.above.a ks.above.len ks.above.cap, .slice ks.pubs.a ks.pubs.len ks.pubs.cap, .slice ks.boxes.a ks.boxes.len ks.boxes.cap, .slice ks.keys.a ks.keys.len ks.keys.cap] :: ownA sw (toI st1.wait) :: ownA ks.left st1.left :: tabL (terms N) ks t L0))) := by
      refine h1.perm ?_
      unfold knL
      simp only [List.cons_append, List.nil_append]
      refine (List.Perm.swap _ _ _).trans (List.Perm.cons _ ?_)
      have e : ∀ (x1 x2 x3 y : Asn) (A C : List Asn), (x1 :: x2 :: x3 :: y :: (A ++ C)).Perm (y :: (C ++ (x1 :: x2 :: x3 :: A))) := by
        intro x1 x2 x3 y A C
        have h1 : (x1 :: x2 :: x3 :: y :: (A ++ C)).Perm (y :: x1 :: x2 :: x3 :: (A ++ C)) := (List.perm_middle (l₁ := [x1, x2, x3]) (a := y) (l₂ := A ++ C))
        refine h1.trans (List.Perm.cons _ ?_)
        exact (List.perm_append_comm (l₁ := x1 :: x2 :: x3 :: A) (l₂ := C))
      exact e _ _ _ _ _ _
    have h6 : Sep B w1 ((R ++ (boxA k [.pointer (some a), .slice ks.is.a ks.is.len ks.is.cap, .slice sw.a sw.len sw.cap, .slice ks.left.a ks.left.len ks.left.cap, .slice ks.above.a ks.above.len ks.above.cap, .slice ks.pubs.a ks.pubs.len ks.pubs.cap, .slice ks.boxes.a ks.boxes.len ks.boxes.cap, .slice ks.keys.a ks.keys.len ks.keys.cap] :: ownA sw (toI st1.wait) :: ownA ks.left st1.left :: tabL (terms N) ks t L0)) ++ [boolA ks.is st1.is, arA a N]) := h5.perm List.perm_append_comm
    rw [List.append_assoc] at h6
    have h7 := h6.perm (List.perm_append_comm)
    have h8 : Sep B w1 ((boxA k [.pointer (some a), .slice ks.is.a ks.is.len ks.is.cap, .slice sw.a sw.len sw.cap, .slice ks.left.a ks.left.len ks.left.cap, .slice ks.above.a ks.above.len ks.above.cap, .slice ks.pubs.a ks.pubs.len ks.pubs.cap, .slice ks.boxes.a ks.boxes.len ks.boxes.cap, .slice ks.keys.a ks.keys.len ks.keys.cap] :: ownA sw (toI st1.wait) :: ownA ks.left st1.left :: tabL (terms N) ks t L0) ++ ([boolA ks.is st1.is, arA a N] ++ R)) := by rw [List.append_assoc] at h7; exact h7
    exact Sep.dropL h8

end Go.Proofs.YtoclhecldmahiaaDoor
