/-
  Terms: what is told is the caller's own; what is opened, and what is beneath, is the page's.
-/
import Derived.Test.YtpihglmgkfecbaaDoorTmN
set_option linter.unusedVariables false
set_option linter.unusedSimpArgs false
namespace Go.Proofs.YtpihglmgkfecbaaDoor
open Go.Lf Go.RowKit

theorem under_len (T : List Tm) (i : Nat) : (underT T i).length ≤ i + 1 := by
  unfold underT
  exact filt_le _ _

/-- a node held against the page's -/
theorem node_same {B : Nat} {w w4 : World} {a b : Addr} {Na Nb : Nds} {k : Nat} {q0 : Addr} {s4 : Sl} (hN : terms Nb = terms Na) (hk : k < (terms Na).length)
    (h7 : Sep B w4 [boxA q0 (tmC (tmAt (terms Na) (k : Int)) s4), ownA s4 (tmAt (terms Na) (k : Int)).args, arA a Na, pgA b Nb]) :
    ∃ (q : Addr) (sl sx : Sl), w4.cell? b = some (.slice sl.a sl.len sl.cap) ∧ (k : Int) < ((sl.len : Nat) : Int) ∧ sl.a = some q ∧ w4.cell? (q.add (((k : Nat) : Int).toNat * 3)) = some (.int .i64 (tmAt (terms Na) (k : Int)).kind) ∧
      w4.cell? ((q.add (((k : Nat) : Int).toNat * 3)).add 1) = some (.int .i64 (tmAt (terms Na) (k : Int)).n) ∧ w4.cell? ((q.add (((k : Nat) : Int).toNat * 3)).add 2) = some (.slice sx.a sx.len sx.cap) ∧
      Ints .i64 w4 s4 (tmAt (terms Na) (k : Int)).args ∧ Ints .i64 w4 sx (tmAt (terms Na) (k : Int)).args := by
  have h7f : Sep B w4 [pgA b Nb, boxA q0 (tmC (tmAt (terms Na) (k : Int)) s4), ownA s4 (tmAt (terms Na) (k : Int)).args, arA a Na] := h7.front 3 rfl
  obtain ⟨hin, hat⟩ := at_nat hk
  have hok := pgOk h7f
  rw [hN] at hok
  have hargs := (ok_at hok hin).2.2.2.1
  have hm := most_le (tmAt (terms Na) (k : Int)).kind
  obtain ⟨sl, _, hS⟩ := h7f.unfold
  have hS : Sep B w4 (pgL 43 b Nb sl ++ [boxA q0 (tmC (tmAt (terms Na) (k : Int)) s4), ownA s4 (tmAt (terms Na) (k : Int)).args, arA a Na]) := hS
  have hsl : sl.len = Nb.length := (hS.rowLen 1 rfl).1
  obtain ⟨sx, hx⟩ := terms_of (N := Nb) (by rw [hN]; exact hat)
  obtain ⟨q, hq, hc⟩ := hS.rowGet 1 (by omega) nodeC.w rfl hx
  have hc0 := hc 0 _ rfl
  rw [add_zero] at hc0
  rw [← hN, terms_len] at hk
  exact ⟨q, sl, sx, hS.cell0 0 rfl rfl, by omega, hq, hc0, hc 1 _ rfl, hc 2 _ rfl, rowInts 1 rfl h7 (by omega), argsAt 2 rfl hS hx⟩

set_option maxRecDepth 100000 in
theorem memory_spec {W : World} (hT : PT W.heap.size W) {s : Sl} {l : List Stp} (h : Stps W s l) :
    CallsV Tryd.prog n_trystlaw10_TermMemory #[.slice s.a s.len s.cap] W fun v w' => v = .bool true ∧ Below W.heap.size W w' := by
  refine trystlaw10_TermMemory.lift ?_
  unfold trystlaw10_TermMemory.main
  refine (heavy_spec h).mono ?_
  rintro _ _ ⟨rfl, rfl⟩
  refine ⟨_, rfl, cond_c (fun _ => ⟨rfl, Below.refl _ _⟩) fun hh => ?_⟩
  refine (lawBuild hT h hh).mono ?_
  rintro _ w1 ⟨a, b, Na, Nb, rfl, hNa, hNb, h1, hB1⟩
  refine ⟨_, _, _, rfl, cond_f' rfl ?_⟩
  obtain ⟨B, hBe⟩ : ∃ B, B = W.heap.size := ⟨_, rfl⟩
  rw [← hBe] at hT h1 hB1 ⊢
  have hN : terms Nb = terms Na := by rw [hNa, hNb]
  have hok := arOk h1
  have hfew := hok.few
  generalize hRR : (fun (v : Value) (w' : World) => v = .bool true ∧ Below B W w') = RR
  unfold trystlaw10_TermMemory.l4
  refine ⟨fun t w' => ∃ k : Nat, t = k ∧ k ≤ (terms Na).length ∧ Sep B w' [arA a Na, pgA b Nb] ∧ Below B W w', fun t _ => (terms Na).length - t.toNat, ⟨0, rfl, Nat.zero_le _, h1, hB1⟩, ?_⟩
  rintro _ w2 ⟨k, rfl, hk, h2, hB2⟩
  unfold trystlaw10_TermMemory.b4
  obtain ⟨xb, cb, hcb⟩ := pgLen h2.swap
  rw [hN] at hcb
  refine ⟨b, rfl, _, _, _, hcb, cond_d (fun hlt => ?_) fun hge => ?_⟩
  · have hk' : k < (terms Na).length := by omega
    have hin := (at_nat hk').1
    have hul := under_len (terms Na) k
    refine (beneath_spec h2 (k : Int)).mono ?_
    rintro _ w3 ⟨s3, rfl, h3, hb3⟩
    rw [if_pos hin, Int.toNat_natCast] at h3
    rw [if_pos hin]
    have h3s : Sep B w3 [arA a Na, ownA s3 (underT (terms Na) k), pgA b Nb] := h3.swap
    refine ⟨_, _, _, _, rfl, (beneath_spec h3s (k : Int)).mono ?_⟩
    rintro _ w4 ⟨s4, rfl, h4, hb4⟩
    rw [if_pos hin, Int.toNat_natCast] at h4
    rw [if_pos hin]
    have h4 : Sep B w4 [ownA s4 (underT (terms Na) k), arA a Na, ownA s3 (underT (terms Na) k), pgA b Nb] := h4
    have hB4 := (hB2.trans hb3).trans hb4
    refine ⟨_, _, _, _, rfl, cond_n (fun h => absurd rfl h) fun _ => cond_n (fun h => absurd rfl h) fun _ => ?_⟩
    refine (ints_spec (s := s3) (t := s4) (rowInts (xs := underT (terms Na) k) 2 rfl h4 (by omega)) (rowInts (xs := underT (terms Na) k) 0 rfl h4 (by omega))).mono ?_
    rintro _ w5 ⟨rfl, hs5⟩
    have h5 := h4.same hs5
    have hB5 := hB4.trans (hs5.below B)
    refine ⟨_, rfl, cond_f' (by simp) ?_⟩
    unfold trystlaw10_TermMemory.c5
    refine (spoil_spec (s := s3) (xs := underT (terms Na) k) (h5.front 2 rfl) (by omega)).mono ?_
    rintro _ w6 ⟨rfl, h6, hb6⟩
    have h6 : Sep B w6 [ownA s4 (underT (terms Na) k), arA a Na, pgA b Nb] := h6
    refine ⟨rfl, (beneath_spec h6.swap (k : Int)).mono ?_⟩
    rintro _ w7 ⟨s7, rfl, h7, hb7⟩
    rw [if_pos hin, Int.toNat_natCast] at h7
    rw [if_pos hin]
    have h7 : Sep B w7 [ownA s7 (underT (terms Na) k), arA a Na, ownA s4 (underT (terms Na) k), pgA b Nb] := h7
    have hB7 := (hB5.trans hb6).trans hb7
    refine ⟨_, _, _, _, rfl, cond_n (fun h => absurd rfl h) fun _ => ?_⟩
    refine (ints_spec (s := s4) (t := s7) (rowInts (xs := underT (terms Na) k) 2 rfl h7 (by omega)) (rowInts (xs := underT (terms Na) k) 0 rfl h7 (by omega))).mono ?_
    rintro _ w8 ⟨rfl, hs8⟩
    have h8 := h7.same hs8
    refine ⟨_, rfl, cond_f' (by simp) ?_⟩
    rw [inc (by omega)]
    exact ⟨⟨rfl, rfl, k + 1, rfl, by omega, Sep.mid (L := [arA a Na]) h8.drop, hB7.trans (hs8.below B)⟩, by (try dsimp only); omega⟩
  · unfold trystlaw10_TermMemory.c3 trystlaw10_TermMemory.l2
    refine ⟨fun t w' => ∃ k : Nat, t = k ∧ k ≤ (terms Na).length ∧ Sep B w' [arA a Na, pgA b Nb] ∧ Below B W w', fun t _ => (terms Na).length - t.toNat, ⟨0, rfl, Nat.zero_le _, h2, hB2⟩, ?_⟩
    rintro _ w3 ⟨j, rfl, hj, h3, hB3⟩
    unfold trystlaw10_TermMemory.b2
    obtain ⟨xb, cb, hcb⟩ := pgLen h3.swap
    rw [hN] at hcb
    refine ⟨b, rfl, _, _, _, hcb, cond_d (fun hlt => ?_) fun hge => ?_⟩
    · have hj' : j < (terms Na).length := by omega
      have hin := (at_nat hj').1
      have hnode : nodeT (terms Na) (j : Int) = (tmAt (terms Na) (j : Int), 0) := by unfold nodeT; rw [if_pos hin]
      refine (node_spec h3 (j : Int)).mono ?_
      rintro _ w4 ⟨s4, rfl, h4, hb4⟩
      rw [hnode] at h4 ⊢
      have hB4 := hB3.trans hb4
      refine ⟨_, _, _, _, _, _, rfl, ?_⟩
      intro w5
      obtain ⟨r5, h6, b6⟩ := Sep.tmp3 h4 43 (.int .i64 0) (.int .i64 0) (.slice none 0 0) (.int .i64 (tmAt (terms Na) (j : Int)).kind) (.int .i64 (tmAt (terms Na) (j : Int)).n) (.slice s4.a s4.len s4.cap)
      refine ⟨r5, ?_⟩
      intro w6
      have h6 : Sep B w6 [boxA (newA w4) (tmC (tmAt (terms Na) (j : Int)) s4), ownA s4 (tmAt (terms Na) (j : Int)).args, arA a Na, pgA b Nb] := h6
      have hB6 : Below B W w6 := hB4.trans b6
      clear_value w6
      have h7 := h6.drew
      have hB7 := hB6.trans ((Same.drew w6).below B)
      obtain ⟨q, sl, sx, g0, g1, g2, g3, g4, g5, g6, g7⟩ := node_same (w := W) hN hj' h7
      refine ⟨fun y => y = w6.drew, rfl, cond_n (fun h => absurd rfl h) fun _ => ⟨_, fun y hy => by rw [hy]; exact h7.cell0 0 rfl rfl, _, fun y hy => by rw [hy]; exact h7.cell 0 rfl 1 rfl, _, _, _, fun y hy => by rw [hy]; exact h7.cell 0 rfl 2 rfl,
        b, rfl, _, _, _, fun y hy => by rw [hy]; exact g0, by omega, g1, q, g2, _, fun y hy => by rw [hy]; exact g3, _, fun y hy => by rw [hy]; exact g4, _, _, _, fun y hy => by rw [hy]; exact g5, ?_⟩⟩
      refine (termEq_spec (t := tmAt (terms Na) (j : Int)) (u := tmAt (terms Na) (j : Int)) g6 g7).mono ?_
      rintro _ w8 ⟨rfl, hb8⟩
      have h8 := h7.keep hb8
      refine ⟨_, rfl, cond_f' (by simp) ?_⟩
      rw [inc (by omega)]
      exact ⟨⟨rfl, rfl, j + 1, rfl, by omega, h8.drop.drop, hB7.trans (hb8.mono h7.le)⟩, by (try dsimp only); omega⟩
    · unfold trystlaw10_TermMemory.c1
      refine (wakes_spec h3 (hT.on hB3)).mono ?_
      rintro _ w9 ⟨rfl, h9, hb9⟩
      refine ⟨_, rfl, ?_⟩
      rw [← hRR]
      exact ⟨rfl, hB3.trans hb9⟩

theorem len_openT (T : List Tm) (h : TOk T) (i k : Int) : (openT T i k).1.length ≤ 400 ∧ (unboxT T i k).1.length ≤ 400 ∧ (signedT T i k).1.length ≤ 400 := by
  have key : inT T i → ∀ m, ((tmAt T i).args.drop m).length ≤ 400 := fun hi m => by
    have h1 := (ok_at h hi).2.2.2.1
    have h2 := most_le (tmAt T i).kind
    rw [List.length_drop]; omega
  refine ⟨?_, ?_, ?_⟩
  · unfold openT
    by_cases hc : inT T i ∧ inT T k
    · rw [if_neg (fun h => h hc)]
      split
      · simp
      · split
        · simp
        · exact key hc.1 1
    · rw [if_pos hc]; simp
  · unfold unboxT
    by_cases hc : inT T i ∧ inT T k
    · rw [if_neg (fun h => h hc)]
      split
      · simp
      · split
        · simp
        · split
          · simp
          · exact key hc.1 2
    · rw [if_pos hc]; simp
  · unfold signedT
    by_cases hc : inT T i ∧ inT T k
    · rw [if_neg (fun h => h hc)]
      split
      · simp
      · split
        · simp
        · split
          · simp
          · exact key hc.1 1
    · rw [if_pos hc]; simp

set_option maxRecDepth 100000 in
theorem opens_spec {W : World} (hT : PT W.heap.size W) {s : Sl} {l : List Stp} (h : Stps W s l) (i k : Int) (raw : Bool) :
    CallsV Tryd.prog n_trystlaw10_TermOpens #[.slice s.a s.len s.cap, .int .i64 i, .int .i64 k, .bool raw] W fun v w' => v = .bool true ∧ Below W.heap.size W w' := by
  refine trystlaw10_TermOpens.lift ?_
  unfold trystlaw10_TermOpens.main
  refine (heavy_spec h).mono ?_
  rintro _ _ ⟨rfl, rfl⟩
  refine ⟨_, rfl, cond_c (fun _ => ⟨rfl, Below.refl _ _⟩) fun hh => ?_⟩
  refine (lawBuild hT h hh).mono ?_
  rintro _ w1 ⟨a, b, Na, Nb, rfl, hNa, hNb, h1, hB1⟩
  refine ⟨_, _, _, rfl, cond_f' rfl ?_⟩
  obtain ⟨B, hBe⟩ : ∃ B, B = W.heap.size := ⟨_, rfl⟩
  rw [← hBe] at hT h1 hB1 ⊢
  have hN : terms Nb = terms Na := by rw [hNa, hNb]
  have hok := arOk h1
  have hfew := hok.few
  generalize hRR : (fun (v : Value) (w' : World) => v = .bool true ∧ Below B W w') = RR
  have wk : ∀ w5 R, Sep B w5 R → Below B W w5 → CallsV Tryd.prog n_trystlaw10_wakes #[] w5 (fun v_10 w6 => ∃ b_11 : Bool, v_10 = .bool b_11 ∧ RR (.bool b_11) w6) := by
    intro w5 R h5 hB5
    refine (wakes_spec h5 (hT.on hB5)).mono ?_
    rintro _ w9 ⟨rfl, h9, hb9⟩
    refine ⟨_, rfl, ?_⟩
    rw [← hRR]
    exact ⟨rfl, hB5.trans hb9⟩
  have c5 : ∀ (i k : Int) (w2 : World), Sep B w2 [arA a Na, pgA b Nb] → Below B W w2 → trystlaw10_TermOpens.c5 RR i k (some a) (some b) w2 := by
    intro i k w2 h2 hB2
    obtain ⟨l1, l2, l3⟩ := len_openT _ hok i k
    unfold trystlaw10_TermOpens.c5
    refine (open_spec h2 i k).mono ?_
    rintro _ w3 ⟨s3, rfl, h3, hb3⟩
    have h3f : Sep B w3 [pgA b Nb, ownA s3 (openT (terms Na) i k).1, arA a Na] := h3.front 2 rfl
    refine ⟨_, _, _, _, rfl, (ropen_spec h3f i k).mono ?_⟩
    rintro _ w4 ⟨s4, rfl, hI4, h4, hb4⟩
    rw [hN] at hI4 ⊢
    refine ⟨_, _, _, _, rfl, (ints_spec (s := s3) (t := s4) (rowInts (xs := (openT (terms Na) i k).1) 1 rfl h4 (by omega)) hI4).mono ?_⟩
    rintro _ w5 ⟨rfl, hs5⟩
    refine ⟨_, rfl, cond_f' (by simp) (cond_n (fun h => absurd rfl h) fun _ => ?_)⟩
    have h5 := h4.same hs5
    have hB5 := ((hB2.trans hb3).trans hb4).trans (hs5.below B)
    unfold trystlaw10_TermOpens.c4
    refine (spoil_spec (s := s3) (xs := (openT (terms Na) i k).1) (h5.front 1 rfl) (by omega)).mono ?_
    rintro _ w6 ⟨rfl, h6, hb6⟩
    have h6 : Sep B w6 [pgA b Nb, arA a Na] := h6
    refine ⟨rfl, (unbox_spec h6.swap i k).mono ?_⟩
    rintro _ w7 ⟨s7, rfl, h7, hb7⟩
    have h7f : Sep B w7 [pgA b Nb, ownA s7 (unboxT (terms Na) i k).1, arA a Na] := h7.front 2 rfl
    refine ⟨_, _, _, _, rfl, (runbox_spec h7f i k).mono ?_⟩
    rintro _ w8 ⟨s8, rfl, hI8, h8, hb8⟩
    rw [hN] at hI8 ⊢
    refine ⟨_, _, _, _, rfl, (ints_spec (s := s7) (t := s8) (rowInts (xs := (unboxT (terms Na) i k).1) 1 rfl h8 (by omega)) hI8).mono ?_⟩
    rintro _ w9 ⟨rfl, hs9⟩
    refine ⟨_, rfl, cond_f' (by simp) (cond_n (fun h => absurd rfl h) fun _ => ?_)⟩
    have h9 := h8.same hs9
    have hB9 := (((hB5.trans hb6).trans hb7).trans hb8).trans (hs9.below B)
    unfold trystlaw10_TermOpens.c3
    refine (spoil_spec (s := s7) (xs := (unboxT (terms Na) i k).1) (h9.front 1 rfl) (by omega)).mono ?_
    rintro _ w10 ⟨rfl, h10, hb10⟩
    have h10 : Sep B w10 [pgA b Nb, arA a Na] := h10
    refine ⟨rfl, (signed_spec h10.swap i k).mono ?_⟩
    rintro _ w11 ⟨s11, rfl, h11, hb11⟩
    have h11f : Sep B w11 [pgA b Nb, ownA s11 (signedT (terms Na) i k).1, arA a Na] := h11.front 2 rfl
    refine ⟨_, _, _, _, rfl, (rsigned_spec h11f i k).mono ?_⟩
    rintro _ w12 ⟨s12, rfl, hI12, h12, hb12⟩
    rw [hN] at hI12 ⊢
    refine ⟨_, _, _, _, rfl, (ints_spec (s := s11) (t := s12) (rowInts (xs := (signedT (terms Na) i k).1) 1 rfl h12 (by omega)) hI12).mono ?_⟩
    rintro _ w13 ⟨rfl, hs13⟩
    refine ⟨_, rfl, cond_f' (by simp) (cond_n (fun h => absurd rfl h) fun _ => ?_)⟩
    have h13 := h12.same hs13
    have hB13 := (((hB9.trans hb10).trans hb11).trans hb12).trans (hs13.below B)
    unfold trystlaw10_TermOpens.c2
    refine (spoil_spec (s := s11) (xs := (signedT (terms Na) i k).1) (h13.front 1 rfl) (by omega)).mono ?_
    rintro _ w14 ⟨rfl, h14, hb14⟩
    have h14 : Sep B w14 [pgA b Nb, arA a Na] := h14
    refine ⟨rfl, (beneath_spec h14.swap i).mono ?_⟩
    rintro _ w15 ⟨s15, rfl, h15, hb15⟩
    have hB15 := (hB13.trans hb14).trans hb15
    refine ⟨_, _, _, _, rfl, ?_⟩
    intro w16
    have hb16 : Below w15.heap.size w15 w16 := below_alloc _ _
    have hI16 : Ints .i64 w16 ⟨some (newA w15), 1, 1⟩ [i] := ints_one i
    have h16 := h15.keep hb16
    have hB16 := hB15.trans (hb16.mono h15.le)
    clear_value w16
    have h16f : Sep B w16 [pgA b Nb, ownA s15 (if inT (terms Na) i then underT (terms Na) i.toNat else []), arA a Na] := h16.front 2 rfl
    obtain ⟨xb, cb, hcb⟩ := pgLen h16f
    refine (rhas_spec (s := ⟨some (newA w15), 1, 1⟩) hcb hI16).mono ?_
    rintro _ w17 ⟨rfl, hs17⟩
    have h17 := h16.same hs17
    have hB17 := hB16.trans (hs17.below B)
    rw [hN]
    have e9 : (∀ x ∈ [i], inT (terms Na) x) ↔ inT (terms Na) i := by simp
    refine ⟨_, rfl, cond_not (fun hb => ?_) fun hb => ?_⟩
    · have hb : ¬ inT (terms Na) i := fun h => of_decide_eq_false hb (e9.2 h)
      rw [if_neg hb] at h17 ⊢
      have hl : s15.len = 0 := (h17.rowLen 0 rfl).1
      rw [hl]
      exact cond_t rfl (cond_t rfl (wk _ _ h17 hB17))
    · have hb := e9.1 (of_decide_eq_true hb)
      rw [if_pos hb] at h17 ⊢
      have hi : 0 ≤ i ∧ i < ((terms Na).length : Int) := hb
      obtain ⟨n, rfl⟩ : ∃ n : Nat, i = n := ⟨i.toNat, by omega⟩
      rw [Int.toNat_natCast] at h17
      have hn : n < (terms Na).length := by omega
      have hul := under_len (terms Na) n
      refine cond_n (fun h => absurd rfl h) fun _ => ?_
      have h17f : Sep B w17 [pgA b Nb, ownA s15 (underT (terms Na) n), arA a Na] := h17.front 2 rfl
      refine (rbeneath_spec h17f (n := n) (by rw [hN]; exact hn)).mono ?_
      rintro _ w18 ⟨s18, rfl, h18, hb18⟩
      rw [hN] at h18
      refine ⟨_, _, _, rfl, (ints_spec (s := s15) (t := s18) (rowInts (xs := underT (terms Na) n) 2 rfl h18 (by omega)) (rowInts (xs := underT (terms Na) n) 0 rfl h18 (by omega))).mono ?_⟩
      rintro _ w19 ⟨rfl, hs19⟩
      refine ⟨_, rfl, cond_f' (by simp) ?_⟩
      have h19 := h18.same hs19
      have hB19 := (hB17.trans hb18).trans (hs19.below B)
      have h19 : Sep B w19 [pgA b Nb, ownA s15 (underT (terms Na) n), arA a Na] := h19.drop
      have h20 : Sep B w19 [pgA b Nb, arA a Na] := Sep.mid (L := [pgA b Nb]) h19
      unfold trystlaw10_TermOpens.c1
      have hnode : nodeT (terms Na) (n : Int) = (tmAt (terms Na) (n : Int), 0) := by unfold nodeT; rw [if_pos hb]
      refine (node_spec h20.swap (n : Int)).mono ?_
      rintro _ w21 ⟨s21, rfl, h21, hb21⟩
      rw [hnode] at h21 ⊢
      have hB21 := hB19.trans hb21
      refine ⟨_, _, _, _, _, _, rfl, ?_⟩
      intro w22
      obtain ⟨r22, h23, b23⟩ := Sep.tmp3 h21 43 (.int .i64 0) (.int .i64 0) (.slice none 0 0) (.int .i64 (tmAt (terms Na) (n : Int)).kind) (.int .i64 (tmAt (terms Na) (n : Int)).n) (.slice s21.a s21.len s21.cap)
      refine ⟨r22, ?_⟩
      intro w23
      have h23 : Sep B w23 [boxA (newA w21) (tmC (tmAt (terms Na) (n : Int)) s21), ownA s21 (tmAt (terms Na) (n : Int)).args, arA a Na, pgA b Nb] := h23
      have hB23 : Below B W w23 := hB21.trans b23
      clear_value w23
      have h24 := h23.drew
      have hB24 := hB23.trans ((Same.drew w23).below B)
      obtain ⟨q, sl, sx, g0, g1, g2, g3, g4, g5, g6, g7⟩ := node_same (w := W) hN hn h24
      refine ⟨fun y => y = w23.drew, rfl, cond_t rfl ⟨_, fun y hy => by rw [hy]; exact h24.cell0 0 rfl rfl, _, fun y hy => by rw [hy]; exact h24.cell 0 rfl 1 rfl, _, _, _, fun y hy => by rw [hy]; exact h24.cell 0 rfl 2 rfl,
        b, rfl, _, _, _, fun y hy => by rw [hy]; exact g0, by omega, g1, q, g2, _, fun y hy => by rw [hy]; exact g3, _, fun y hy => by rw [hy]; exact g4, _, _, _, fun y hy => by rw [hy]; exact g5, ?_⟩⟩
      refine (termEq_spec (t := tmAt (terms Na) (n : Int)) (u := tmAt (terms Na) (n : Int)) g6 g7).mono ?_
      rintro _ w25 ⟨rfl, hb25⟩
      exact ⟨_, rfl, cond_t (by simp) (wk _ _ (h24.keep hb25) (hB24.trans (hb25.mono h24.le)))⟩
  refine cond_not (fun _ => ?_) fun _ => c5 i k w1 h1 hB1
  intro w26
  have hb26 : Below w1.heap.size w1 w26 := below_alloc _ _
  have hI26 : Ints .i64 w26 ⟨some (newA w1), 2, 2⟩ [i, k] := ints_two i k
  have h26 := h1.keep hb26
  have hB26 := hB1.trans (hb26.mono h1.le)
  clear_value w26
  obtain ⟨xb, cb, hcb⟩ := pgLen h26.swap
  refine ⟨b, rfl, _, _, _, hcb, ?_⟩
  refine (some_spec (s := ⟨some (newA w1), 2, 2⟩) hI26 (by simp) _).mono ?_
  rintro _ w27 ⟨s27, rfl, o27, hb27⟩
  have h27 := Sep.row h26 o27 hb27
  have hB27 := hB26.trans (hb27.mono h26.le)
  have hI27 : Ints .i64 w27 s27 (someI [i, k] ((terms Nb).length : Int)) := o27.ints (by simp [someI])
  have hl : s27.len = 2 := by rw [hI27.len]; simp [someI]
  obtain ⟨q, hq, hc0⟩ := hI27.get (i := 0) (by omega) (by omega)
  obtain ⟨q', hq', hc1⟩ := hI27.get (i := 1) (by omega) (by omega)
  refine ⟨_, _, _, rfl, by omega, by omega, q, hq, _, hc0, by omega, by omega, q', hq', _, hc1, ?_⟩
  exact c5 _ _ _ (h27.drop.drew) (hB27.trans ((Same.drew w27).below B))

end Go.Proofs.YtpihglmgkfecbaaDoor
