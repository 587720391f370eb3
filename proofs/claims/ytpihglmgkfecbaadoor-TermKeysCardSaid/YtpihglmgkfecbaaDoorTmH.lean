/-
  Terms: what is built of steps, on both arenas: contract.
-/
import Derived.Test.YtpihglmgkfecbaaDoorTmG
set_option linter.unusedVariables false
set_option linter.unusedSimpArgs false
namespace Go.Proofs.YtpihglmgkfecbaaDoor
open Go.Lf Go.RowKit

theorem Sep.tmp3 {B : Nat} {w : World} {l : List Asn} (h : Sep B w l) (T : TypeId) (x y z a b c : Value) :
    (∀ j, j < 3 → Wr (w.alloc (.cells #[x, y, z] T)) ((newA w).add j)) ∧ Sep B (setCells (newA w) [a, b, c] 0 (w.alloc (.cells #[x, y, z] T))) (boxA (newA w) [a, b, c] :: l) ∧ Below B w (setCells (newA w) [a, b, c] 0 (w.alloc (.cells #[x, y, z] T))) := by
  refine ⟨fun j hj => wr_new _ _ _ (by simpa using hj), ?_⟩
  rw [box_set3]
  exact h.box [a, b, c] T

theorem arOk {B : Nat} {w : World} {p : Addr} {N : Nds} {R : List Asn} (h : Sep B w (arA p N :: R)) : TOk (terms N) := h.unfold.choose_spec.1.1
theorem pgOk {B : Nat} {w : World} {p : Addr} {N : Nds} {R : List Asn} (h : Sep B w (pgA p N :: R)) : TOk (terms N) := h.unfold.choose_spec.1.1

theorem arLen {B : Nat} {w : World} {p : Addr} {N : Nds} {R : List Asn} (h : Sep B w (arA p N :: R)) : ∃ a c, w.cell? p = some (.slice a (terms N).length c) := by
  obtain ⟨⟨sl, m⟩, _, hS⟩ := h.unfold
  have hS : Sep B w (arL 43 p N sl m ++ R) := hS
  refine ⟨sl.a, sl.cap, ?_⟩
  rw [terms_len, ← (hS.rowLen 1 rfl).1]
  exact hS.cell0 0 rfl rfl
theorem pgLen {B : Nat} {w : World} {p : Addr} {N : Nds} {R : List Asn} (h : Sep B w (pgA p N :: R)) : ∃ a c, w.cell? p = some (.slice a (terms N).length c) := by
  obtain ⟨sl, _, hS⟩ := h.unfold
  have hS : Sep B w (pgL 43 p N sl ++ R) := hS
  refine ⟨sl.a, sl.cap, ?_⟩
  rw [terms_len, ← (hS.rowLen 1 rfl).1]
  exact hS.cell0 0 rfl rfl

theorem put_len (T : List Tm) (t : Tm) : (put T t).1.length ≤ T.length + 1 := by
  unfold put
  split
  · exact Nat.le_succ _
  · split
    · exact Nat.le_succ _
    · split
      · exact Nat.le_succ _
      · simp

theorem build_at {l : List Stp} {k : Nat} {x : Stp} (h : l[k]? = some x) : (l.take (k + 1)).foldl (fun T x => (put T (stepT T x)).1) [] = (put ((l.take k).foldl (fun T x => (put T (stepT T x)).1) []) (stepT ((l.take k).foldl (fun T x => (put T (stepT T x)).1) []) x)).1 := by
  obtain ⟨hlt, he⟩ := List.getElem?_eq_some_iff.1 h
  rw [List.take_succ_eq_append_getElem hlt, he, List.foldl_append]
  rfl

set_option maxRecDepth 100000 in
theorem build_spec {W w : World} {R : List Asn} {s : Sl} {l : List Stp} (hL : Stps W s l) (h0 : Below W.heap.size W w) (h : Sep W.heap.size w R) (hT : PT W.heap.size w) (hh : heavyL l = false) :
    CallsV Tryd.prog n_trystlaw10_Build #[.slice s.a s.len s.cap] w fun v w' => ∃ a b Na Nb, v = .tuple #[.pointer (some a), .pointer (some b), .bool true] ∧
      terms Na = buildT l ∧ terms Nb = buildT l ∧ Sep W.heap.size w' (arA a Na :: pgA b Nb :: R) ∧ Below W.heap.size w w' := by
  refine trystlaw10_Build.lift ?_
  obtain ⟨hl6, hlight⟩ := light hh
  have hlen := hL.len
  obtain ⟨B, hBe⟩ : ∃ B, B = W.heap.size := ⟨_, rfl⟩
  rw [← hBe] at h0 h hT ⊢
  unfold trystlaw10_Build.main
  refine (new_spec h).mono ?_
  rintro _ w8 ⟨a, rfl, h8, hb8⟩
  refine ⟨_, rfl, ?_⟩
  intro w9
  obtain ⟨h9, hb9⟩ := newPage_spec h8
  have h9 : Sep B w9 (pgA (newA w8) [] :: arA a [] :: R) := h9
  have hB9 : Below B w w9 := hb8.trans hb9
  clear_value w9
  generalize newA w8 = b at h9 ⊢
  refine cond_f' rfl ?_
  generalize hRR : (fun (v : Value) (w' : World) => ∃ a b Na Nb, v = .tuple #[.pointer (some a), .pointer (some b), .bool true] ∧ terms Na = buildT l ∧ terms Nb = buildT l ∧ Sep B w' (arA a Na :: pgA b Nb :: R) ∧ Below B w w') = RR
  unfold trystlaw10_Build.l2
  refine ⟨fun t w' => ∃ k : Nat, t = k ∧ k ≤ l.length ∧ k ≤ 150 ∧ ∃ Na Nb, terms Na = (l.take k).foldl (fun T x => (put T (stepT T x)).1) [] ∧ terms Nb = terms Na ∧ Sep B w' (arA a Na :: pgA b Nb :: R) ∧ Below B w w', fun t _ => l.length - t.toNat, ⟨0, rfl, Nat.zero_le _, Nat.zero_le _, [], [], rfl, rfl, h9.swap, hB9⟩, ?_⟩
  rintro _ w1 ⟨k, rfl, hk, hk2, Na, Nb, hNa, hNb, h1, hB1⟩
  have fin : (l.length ≤ k ∨ 150 ≤ k) → trystlaw10_Build.c1 RR (some a) (some b) w1 := by
    intro hc
    have hbt : terms Na = buildT l := by
      rw [hNa]
      unfold buildT
      congr 1
      rcases hc with hc | hc
      · rw [List.take_of_length_le (by omega), List.take_of_length_le (by omega)]
      · have e : k = 150 := Nat.le_antisymm hk2 hc
        rw [e]
    unfold trystlaw10_Build.c1
    have h2 := h1.drew
    obtain ⟨xa, ca, hca⟩ := arLen h2
    obtain ⟨xb, cb, hcb⟩ := pgLen h2.swap
    refine ⟨fun y => y = w1.drew, rfl, b, rfl, _, _, _, fun y hy => by rw [hy]; exact hcb, ?_⟩
    refine (len_spec hca).mono ?_
    rintro _ _ ⟨rfl, rfl⟩
    refine ⟨_, rfl, rfl, ?_⟩
    rw [← hRR]
    refine ⟨a, b, Na, Nb, ?_, hbt, by rw [hNb, hbt], h2, hB1.trans ((Same.drew w1).below B)⟩
    rw [hNb]
    simp
  unfold trystlaw10_Build.b2
  refine cond_d (fun hlt => ?_) fun hge => fin (.inl (by omega))
  refine cond_d (p := ((k : Nat) : Int) < 150) (fun h150 => ?_) fun h150 => fin (.inr (by omega))
  have hk' : k < l.length := by omega
  obtain ⟨p, x, sx, hp, hx, c0, c1, c2, c3, hI, hn⟩ := hL.get (i := (k : Int)) (by omega) hlt
  rw [Int.toNat_natCast] at hx
  have hxl := hlight k x (by omega) hx
  have h01 : Below W.heap.size W w1 := by rw [← hBe]; exact h0.trans hB1
  have hst : ∀ (w' : World), Below B w1 w' → Ints .i64 w' sx x.args ∧ w'.cell? (p.add (((k : Nat) : Int).toNat * 4)) = some (.int .i64 x.kind) ∧ w'.cell? ((p.add (((k : Nat) : Int).toNat * 4)).add 1) = some (.int .i64 x.n) := by
    intro w' hb'
    have hb : Below W.heap.size W w' := h01.trans (by rw [← hBe]; exact hb')
    exact ⟨hI.keep hb, hb.here c0, hb.here c1⟩
  have c4 : ∀ (w2 : World) (R' : List Asn) (az : Sl) (args : List Int), Below B w1 w2 → Sep B w2 (arA a Na :: pgA b Nb :: R') → args = (stepT (terms Na) x).args → (∀ L w', Sep B w' (L ++ R') → Below B w2 w' → Ints .i64 w' az args) → (∀ w' L, Sep B w' (L ++ R') → Sep B w' (L ++ R)) →
      trystlaw10_Build.c4 RR (fun l0' a5' b6' i7' w' => (l0' = s ∧ a5' = some a ∧ b6' = some b ∧ ∃ k : Nat, i7' = k ∧ k ≤ l.length ∧ k ≤ 150 ∧ ∃ Na Nb, terms Na = (l.take k).foldl (fun T x => (put T (stepT T x)).1) [] ∧ terms Nb = terms Na ∧ Sep B w' (arA a Na :: pgA b Nb :: R) ∧ Below B w w') ∧ l.length - i7'.toNat < l.length - ((k : Nat) : Int).toNat) s (some a) (some b) ((k : Nat) : Int) az w2 := by
    intro w2 R' az args hb12 h2 hargs hAs hback
    have hB2 := hB1.trans hb12
    have hal : args.length ≤ 420 := by
      rw [hargs]
      unfold stepT
      simp only
      split
      · exact hxl
      · simp only [someI, List.length_map]; exact hxl
    unfold trystlaw10_Build.c4
    have hA2 := hAs [arA a Na, pgA b Nb] w2 h2 (Below.refl _ _)
    refine (twin_spec hA2 (by omega)).mono ?_
    rintro _ w3 ⟨si, rfl, ho, hb3⟩
    have h3 : Sep B w3 (ownA si args :: arA a Na :: pgA b Nb :: R') := Sep.row h2 ho hb3
    have hb23 : Below B w2 w3 := hb3.mono h2.le
    have h3d := h3.drew
    have hb13 : Below B w1 w3.drew := (hb12.trans hb23).trans ((Same.drew w3).below B)
    obtain ⟨_, d0, d1⟩ := hst _ hb13
    refine ⟨_, _, _, rfl, fun y => y = w3.drew, rfl, by omega, hlt, p, hp, _, fun y hy => by rw [hy]; exact d0, by omega, hlt, p, hp, _, fun y hy => by rw [hy]; exact d1, ?_⟩
    refine (make_spec (t := stepT (terms Na) x) (s := si) h3d.swap (hT.on (hB1.trans hb13)) hn (fun X w' hs _ => by rw [← hargs]; exact rowInts 1 rfl hs (by omega))).mono ?_
    rintro _ w4 ⟨ma, rfl, hma, h4, hb4⟩
    have h4d := h4.drew
    have hb24 : Below B w2 w4.drew := ((hb23.trans ((Same.drew w3).below B)).trans hb4).trans ((Same.drew w4).below B)
    have hb14 : Below B w1 w4.drew := hb12.trans hb24
    obtain ⟨_, f0, f1⟩ := hst _ hb14
    refine ⟨_, _, rfl, fun y => y = w4.drew, rfl, by omega, hlt, p, hp, _, fun y hy => by rw [hy]; exact f0, by omega, hlt, p, hp, _, fun y hy => by rw [hy]; exact f1, ?_⟩
    have h4p : Sep B w4.drew (pgA b Nb :: arA a (Na ++ ma) :: ownA si args :: R') := h4d.front 2 rfl
    refine (rput_spec (t := stepT (terms Na) x) (s := az) h4p (fun X w' hs hb' => by rw [← hargs]; exact hAs [X, arA a (Na ++ ma), ownA si args] w' hs (hb24.trans hb'))).mono ?_
    rintro _ w5 ⟨mb, rfl, hmb, h5, hb5⟩
    rw [hNb] at hmb ⊢
    refine ⟨_, _, rfl, cond_n (fun h => absurd rfl h) fun _ => cond_n (fun h => absurd rfl h) fun _ => ?_⟩
    have hb25 := hb24.trans hb5
    have hA5 := hAs [pgA b (Nb ++ mb), arA a (Na ++ ma), ownA si args] w5 h5 hb25
    refine (ints_spec (s := si) (t := az) (rowInts (xs := args) 2 rfl h5 (by omega)) hA5).mono ?_
    rintro _ w6 ⟨rfl, hs6⟩
    refine ⟨_, rfl, cond_not (fun h => by simp at h) fun _ => ?_⟩
    have h6 := h5.same hs6
    unfold trystlaw10_Build.c3
    have h6f : Sep B w6 (ownA si args :: pgA b (Nb ++ mb) :: arA a (Na ++ ma) :: R') := h6.front 2 rfl
    refine (spoil_spec h6f (by omega)).mono ?_
    rintro _ w7 ⟨rfl, h7, hb7⟩
    refine ⟨rfl, ?_⟩
    rw [inc (by omega)]
    refine ⟨⟨rfl, rfl, rfl, k + 1, rfl, by omega, by omega, Na ++ ma, Nb ++ mb, ?_, ?_, hback w7 [arA a (Na ++ ma), pgA b (Nb ++ mb)] h7.swap, (((hB2.trans hb25).trans (hs6.below B))).trans hb7⟩, by (try dsimp only); omega⟩
    · rw [hma, build_at hx, ← hNa]
    · rw [hma, hmb]
  unfold trystlaw10_Build.c5
  refine ⟨by omega, hlt, p, hp, _, _, _, h01.here c2, by omega, hlt, p, hp, _, h01.here c3, cond_not (fun hr => ?_) fun hr => ?_⟩
  · obtain ⟨xb, cb, hcb⟩ := pgLen h1.swap
    refine ⟨b, rfl, _, _, _, hcb, ?_⟩
    refine (some_spec (hI.keep h01) (by omega) _).mono ?_
    rintro _ w2 ⟨s2, rfl, ho, hb2⟩
    refine ⟨_, _, _, rfl, ?_⟩
    have h2 : Sep B w2 (ownA s2 (someI x.args ((terms Nb).length : Int)) :: arA a Na :: pgA b Nb :: R) := Sep.row h1 ho hb2
    have hsl : (someI x.args ((terms Nb).length : Int)).length = x.args.length := by simp [someI]
    refine c4 w2 (ownA s2 (someI x.args ((terms Nb).length : Int)) :: R) s2 _ (hb2.mono h1.le) ?_ ?_ (fun L w' hs _ => rowInts 0 rfl (Sep.dropL hs) (by omega)) (fun w' L hs => ?_)
    · exact (h2.front 1 rfl).perm (List.Perm.cons _ (List.Perm.swap _ _ _))
    · unfold stepT; simp only; rw [if_neg (by rw [hr]; decide), hNb]
    · exact (hs.perm List.perm_middle).drop
  · refine c4 w1 R sx x.args (Below.refl _ _) h1 ?_ (fun L w' hs hb' => ?_) fun w' L hs => hs
    · unfold stepT; simp only; rw [if_pos hr]
    · exact (hst w' hb').1

end Go.Proofs.YtpihglmgkfecbaaDoor
