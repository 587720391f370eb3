/-
  Terms: who signed, and what the page opens: contracts.
-/
import Derived.Test.YtpihglmgkfecbaaDoorTmE
set_option linter.unusedVariables false
set_option linter.unusedSimpArgs false
namespace Go.Proofs.YtpihglmgkfecbaaDoor
open Go.Lf Go.RowKit

theorem Sep.sets3 {B : Nat} {w : World} {l : List Asn} (k : Nat) {p : Addr} {x y z : Value} (hk : l[k]? = some (boxA p [x, y, z])) (h : Sep B w l) (a b c : Value) :
    (∀ j, j < 3 → Wr w (p.add j)) ∧ Sep B (setCells p [a, b, c] 0 w) (l.set k (boxA p [a, b, c])) ∧ Below B w (setCells p [a, b, c] 0 w) := by
  have hlt := (List.getElem?_eq_some_iff.1 hk).1
  refine ⟨fun j hj => h.wr k hk (by simpa using hj), ?_⟩
  obtain ⟨k1, b1⟩ := h.set k hk (j := 0) (by simp) a
  obtain ⟨k2, b2⟩ := k1.set k (p := p) (cs := [a, y, z]) (by simp [hlt]) (j := 1) (by simp) b
  obtain ⟨k3, b3⟩ := k2.set k (p := p) (cs := [a, b, z]) (by simp [hlt]) (j := 2) (by simp) c
  rw [List.set_set, List.set_set] at k3
  exact ⟨k3, (b1.trans b2).trans b3⟩

def tmC (t : Tm) (s : Sl) : List Value := [.int .i64 t.kind, .int .i64 t.n, .slice s.a s.len s.cap]

theorem signed_spec {B : Nat} {w : World} {p : Addr} {N : Nds} {R : List Asn} (h : Sep B w (arA p N :: R)) (i k : Int) :
    CallsV Tryd.prog n_term_Arena_Signed #[.pointer (some p), .int .i64 i, .int .i64 k] w fun v w' => ∃ s' : Sl, v = .tuple #[.slice s'.a s'.len s'.cap, .int .i64 (signedT (terms N) i k).2] ∧
      Sep B w' (ownA s' (signedT (terms N) i k).1 :: arA p N :: R) ∧ Below B w w' := by
  refine term_Arena_Signed.lift ?_
  unfold term_Arena_Signed.main
  intro w1
  have hb1 : Below w.heap.size w w1 := below_alloc _ _
  have h1 := h.keep hb1
  have hB1 := hb1.mono h.le
  have hI : Ints .i64 w1 ⟨some (newA w), 2, 2⟩ [i, k] := ints_two i k
  clear_value w1
  obtain ⟨⟨sl, m⟩, ⟨hok, hcaps⟩, hS⟩ := h1.unfold
  have hS : Sep B w1 (arL 43 p N sl m ++ R) := hS
  have hsl : sl.len = N.length := (hS.rowLen 1 rfl).1
  have none' : ∀ e w', signedT (terms N) i k = ([], e) → Sep B w' (arA p N :: R) → Below B w w' → ∃ s' : Sl, Value.tuple #[.slice none 0 0, .int .i64 e] = .tuple #[.slice s'.a s'.len s'.cap, .int .i64 (signedT (terms N) i k).2] ∧ Sep B w' (ownA s' (signedT (terms N) i k).1 :: arA p N :: R) ∧ Below B w w' :=
    fun e w' he hs hb => ⟨⟨none, 0, 0⟩, by rw [he], by rw [he]; exact hs.rowNil 3 1, hb⟩
  refine (has_spec (s := ⟨some (newA w), 2, 2⟩) (T := terms N) (by rw [terms_len, ← hsl]; exact hS.cell0 0 rfl rfl) hI).mono ?_
  rintro _ _ ⟨rfl, rfl⟩
  refine ⟨_, rfl, cond_not (fun hb => none' _ _ ?_ h1 hB1) fun hb => ?_⟩
  · unfold signedT; rw [if_pos (by rw [← two_in]; exact of_decide_eq_false hb)]
  have hb := two_in.1 (of_decide_eq_true hb)
  obtain ⟨sx, hx⟩ := at_in hb.1
  obtain ⟨sy, hy⟩ := at_in hb.2
  have hi : 0 ≤ i ∧ i < (N.length : Int) := by have := hb.1; unfold inT at this; rw [terms_len] at this; exact this
  have hk : 0 ≤ k ∧ k < (N.length : Int) := by have := hb.2; unfold inT at this; rw [terms_len] at this; exact this
  have e1 : ∀ {a b : List Int × Int}, (if ¬ (inT (terms N) i ∧ inT (terms N) k) then a else b) = b := fun {a b} => if_neg (fun h => h hb)
  obtain ⟨o1, o2, o3, o4, o5, o6⟩ := ok_at hok hb.1
  obtain ⟨y1, y2, y3, y4, y5, y6⟩ := ok_at hok hb.2
  obtain ⟨q, hq, _⟩ := hS.rowGet 1 (by omega) nodeC.w rfl hx
  have at3 : ∀ (y : World) (j : Int) (x : Tm × Sl), Sep B y (arL 43 p N sl m ++ R) → N[j.toNat]? = some x → (∀ (n : Nat) (u : Value), (nodeC x)[n]? = some u → y.cell? ((q.add (j.toNat * 3)).add n) = some u) ∧ y.cell? (q.add (j.toNat * 3)) = some (.int .i64 x.1.kind) := by
    intro y j x hy hx
    obtain ⟨q', hq', hc⟩ := hy.rowGet 1 (by omega) nodeC.w rfl hx
    rw [hq] at hq'
    obtain rfl := Option.some.inj hq'
    have := hc 0 _ rfl
    rw [add_zero] at this
    exact ⟨hc, this⟩
  have core : ∀ (w7 : World) (s8 p9 : Addr), Sep B w7 (boxA s8 (tmC (tmAt (terms N) i) sx) :: boxA p9 (tmC (tmAt (terms N) k) sy) :: (arL 43 p N sl m ++ R)) → Below B w w7 →
      (∃ x_41 : Int, w7.cell? s8 = some (.int .i64 x_41) ∧
      cond ((x_41 : Int) != 8) (∃ s' : Sl, Value.tuple #[.slice none 0 0, .int .i64 6] = .tuple #[.slice s'.a s'.len s'.cap, .int .i64 (signedT (terms N) i k).2] ∧ Sep B w7 (ownA s' (signedT (terms N) i k).1 :: arA p N :: R) ∧ Below B w w7)
      (∃ x_42 : Int, w7.cell? p9 = some (.int .i64 x_42) ∧
      cond ((x_42 : Int) != 5) (∃ s' : Sl, Value.tuple #[.slice none 0 0, .int .i64 6] = .tuple #[.slice s'.a s'.len s'.cap, .int .i64 (signedT (terms N) i k).2] ∧ Sep B w7 (ownA s' (signedT (terms N) i k).1 :: arA p N :: R) ∧ Below B w w7)
      (term_Arena_Signed.c2 (fun v w' => ∃ s' : Sl, v = .tuple #[.slice s'.a s'.len s'.cap, .int .i64 (signedT (terms N) i k).2] ∧ Sep B w' (ownA s' (signedT (terms N) i k).1 :: arA p N :: R) ∧ Below B w w') s8 p9 w7))) := by
    intro w7 s8 p9 h7 hB7
    have arOf : ∀ {w' : World}, Sep B w' (boxA s8 (tmC (tmAt (terms N) i) sx) :: boxA p9 (tmC (tmAt (terms N) k) sy) :: (arL 43 p N sl m ++ R)) → Sep B w' (arA p N :: R) := fun h => Sep.fold (sl, m) ⟨hok, hcaps⟩ h.drop.drop
    refine ⟨_, h7.cell0 0 rfl rfl, cond_n (fun hk1 => none' _ _ ?_ (arOf h7) hB7) fun hk1 => ⟨_, h7.cell0 1 rfl rfl, cond_n (fun hk2 => none' _ _ ?_ (arOf h7) hB7) fun hk2 => ?_⟩⟩
    · unfold signedT; rw [e1, if_pos hk1]
    · unfold signedT; rw [e1, if_neg (fun h => h hk1), if_pos hk2]
    have l1 : 1 ≤ (tmAt (terms N) i).args.length := by rw [hk1] at o3; exact o3
    have l2 : 1 ≤ (tmAt (terms N) k).args.length := by rw [hk2] at y3; exact y3
    have hIx := argsAt 5 rfl h7 hx
    obtain ⟨p1, q1, hq1, c1⟩ := arg_get hIx l1
    obtain ⟨p2, q2, hq2, c2⟩ := arg_get (argsAt 5 rfl h7 hy) l2
    unfold term_Arena_Signed.c2
    refine ⟨_, _, _, h7.cell 0 rfl 2 rfl, by omega, p1, q1, hq1, _, c1, _, _, _, h7.cell 1 rfl 2 rfl, by omega, p2, q2, hq2, _, c2, cond_n (fun ha => none' _ _ ?_ (arOf h7.drew) (hB7.trans ((Same.drew w7).below B))) fun ha => ?_⟩
    · unfold signedT; rw [e1, if_neg (fun h => h hk1), if_neg (fun h => h hk2), if_pos ha]
    have h8 := h7.drew
    have hB8 := hB7.trans ((Same.drew w7).below B)
    have hI8 := argsAt 5 rfl h8 hx
    have hcap := hcaps _ (List.mem_of_getElem? hx)
    have hlen := hI8.len
    unfold term_Arena_Signed.c1
    refine ⟨_, _, _, h8.cell 0 rfl 2 rfl, by omega, by (try dsimp only at hlen ⊢); omega, by (try dsimp only at hcap ⊢); omega, by omega, ?_⟩
    have hml := most_le (tmAt (terms N) i).kind
    refine (clone_spec (drop_ints hI8 hcap 1 l1) (by rw [List.length_drop]; show (tmAt (terms N) i).args.length - 1 ≤ _; omega)).mono ?_
    rintro _ w9 ⟨s', rfl, ho, hb9⟩
    have er : signedT (terms N) i k = ((tmAt (terms N) i).args.drop 1, 0) := by unfold signedT; rw [e1, if_neg (fun h => h hk1), if_neg (fun h => h hk2), if_neg (fun h => h ha)]
    refine ⟨_, _, _, rfl, s', by rw [er], by rw [er]; exact Sep.row (arOf h8) ho hb9, hB8.next hb9 h.le⟩
  have hS3 := hS.drew
  have hB3 : Below B w w1.drew := hB1.trans ((Same.drew w1).below B)
  refine ⟨fun y => Sep B y (arL 43 p N sl m ++ R), hS3, p, rfl, _, _, _, fun y h => h.cell0 0 rfl rfl, hi.1, by omega, q, hq, _, fun y h => (at3 y i _ h hx).2, _, fun y h => (at3 y i _ h hx).1 1 _ rfl, _, _, _, fun y h => (at3 y i _ h hx).1 2 _ rfl,
    p, rfl, _, _, _, fun y h => h.cell0 0 rfl rfl, hk.1, by omega, q, hq, _, fun y h => (at3 y k _ h hy).2, _, fun y h => (at3 y k _ h hy).1 1 _ rfl, _, _, _, fun y h => (at3 y k _ h hy).1 2 _ rfl, ?_, ?_⟩
  · intro w4
    obtain ⟨h4, b4⟩ := hS3.box [.int .i64 0, .int .i64 0, .slice none 0 0] 43
    have h4 : Sep B w4 (boxA (newA w1.drew) [.int .i64 0, .int .i64 0, .slice none 0 0] :: (arL 43 p N sl m ++ R)) := h4
    have b4 : Below B w w4 := hB3.trans b4
    clear_value w4
    refine ⟨h4.drop, ?_⟩
    intro w5
    obtain ⟨h5, b5⟩ := h4.box [.int .i64 0, .int .i64 0, .slice none 0 0] 43
    have h5 : Sep B w5 (boxA (newA w4) [.int .i64 0, .int .i64 0, .slice none 0 0] :: boxA (newA w1.drew) [.int .i64 0, .int .i64 0, .slice none 0 0] :: (arL 43 p N sl m ++ R)) := h5
    have b5 : Below B w w5 := b4.trans b5
    clear_value w5
    obtain ⟨r6, h6, b6⟩ := Sep.sets3 1 rfl h5 (.int .i64 (tmAt (terms N) i).kind) (.int .i64 (tmAt (terms N) i).n) (.slice sx.a sx.len sx.cap)
    refine ⟨h5.drop.drop, r6, ?_⟩
    intro w6
    have h6 : Sep B w6 (boxA (newA w4) [.int .i64 0, .int .i64 0, .slice none 0 0] :: boxA (newA w1.drew) (tmC (tmAt (terms N) i) sx) :: (arL 43 p N sl m ++ R)) := h6
    have b6 : Below B w w6 := b5.trans b6
    clear_value w6
    obtain ⟨r7, h7, b7⟩ := Sep.sets3 0 rfl h6 (.int .i64 (tmAt (terms N) k).kind) (.int .i64 (tmAt (terms N) k).n) (.slice sy.a sy.len sy.cap)
    refine ⟨h6.drop.drop, r7, ?_⟩
    intro w7
    have h7 : Sep B w7 (boxA (newA w4) (tmC (tmAt (terms N) k) sy) :: boxA (newA w1.drew) (tmC (tmAt (terms N) i) sx) :: (arL 43 p N sl m ++ R)) := h7
    have b7 : Below B w w7 := b6.trans b7
    clear_value w7
    exact core w7 _ _ h7.swap b7
  · intro w4
    obtain ⟨h4, b4⟩ := hS3.box [.int .i64 0, .int .i64 0, .slice none 0 0] 43
    have h4 : Sep B w4 (boxA (newA w1.drew) [.int .i64 0, .int .i64 0, .slice none 0 0] :: (arL 43 p N sl m ++ R)) := h4
    have b4 : Below B w w4 := hB3.trans b4
    clear_value w4
    refine ⟨h4.drop, ?_⟩
    intro w5
    obtain ⟨h5, b5⟩ := h4.box [.int .i64 0, .int .i64 0, .slice none 0 0] 43
    have h5 : Sep B w5 (boxA (newA w4) [.int .i64 0, .int .i64 0, .slice none 0 0] :: boxA (newA w1.drew) [.int .i64 0, .int .i64 0, .slice none 0 0] :: (arL 43 p N sl m ++ R)) := h5
    have b5 : Below B w w5 := b4.trans b5
    clear_value w5
    obtain ⟨r6, h6, b6⟩ := Sep.sets3 0 rfl h5 (.int .i64 (tmAt (terms N) i).kind) (.int .i64 (tmAt (terms N) i).n) (.slice sx.a sx.len sx.cap)
    refine ⟨h5.drop.drop, r6, ?_⟩
    intro w6
    have h6 : Sep B w6 (boxA (newA w4) (tmC (tmAt (terms N) i) sx) :: boxA (newA w1.drew) [.int .i64 0, .int .i64 0, .slice none 0 0] :: (arL 43 p N sl m ++ R)) := h6
    have b6 : Below B w w6 := b5.trans b6
    clear_value w6
    obtain ⟨r7, h7, b7⟩ := Sep.sets3 1 rfl h6 (.int .i64 (tmAt (terms N) k).kind) (.int .i64 (tmAt (terms N) k).n) (.slice sy.a sy.len sy.cap)
    refine ⟨h6.drop.drop, r7, ?_⟩
    intro w7
    have h7 : Sep B w7 (boxA (newA w4) (tmC (tmAt (terms N) i) sx) :: boxA (newA w1.drew) (tmC (tmAt (terms N) k) sy) :: (arL 43 p N sl m ++ R)) := h7
    have b7 : Below B w w7 := b6.trans b7
    clear_value w7
    exact core w7 _ _ h7 b7

/-! the page's -/

def subSl (s : Sl) (m : Int) : Sl := ⟨if (((s.cap : Nat) : Int)).toNat = (m).toNat then s.a else s.a.map (·.add (m).toNat), ((s.len : Nat) : Int).toNat - (m).toNat, ((s.cap : Nat) : Int).toNat - (m).toNat⟩

theorem ropen_spec {B : Nat} {w : World} {p : Addr} {N : Nds} {R : List Asn} (h : Sep B w (pgA p N :: R)) (i k : Int) :
    CallsV Tryd.prog n_trystref10_Arena_Open #[.pointer (some p), .int .i64 i, .int .i64 k] w fun v w' => ∃ s' : Sl, v = .tuple #[.slice s'.a s'.len s'.cap, .int .i64 (openT (terms N) i k).2] ∧
      Ints .i64 w' s' (openT (terms N) i k).1 ∧ Sep B w' (pgA p N :: R) ∧ Below B w w' := by
  refine trystref10_Arena_Open.lift ?_
  unfold trystref10_Arena_Open.main
  intro w1
  have hb1 : Below w.heap.size w w1 := below_alloc _ _
  have h0 := h.keep hb1
  have hB0 := hb1.mono h.le
  have hI : Ints .i64 w1 ⟨some (newA w), 2, 2⟩ [i, k] := ints_two i k
  clear_value w1
  obtain ⟨sl, ⟨hok, hcaps⟩, hS0⟩ := h0.unfold
  have hS0 : Sep B w1 (pgL 43 p N sl ++ R) := hS0
  have hsl : sl.len = N.length := (hS0.rowLen 1 rfl).1
  have none' : ∀ e w', openT (terms N) i k = ([], e) → Sep B w' (pgA p N :: R) → Below B w w' → ∃ s' : Sl, Value.tuple #[.slice none 0 0, .int .i64 e] = .tuple #[.slice s'.a s'.len s'.cap, .int .i64 (openT (terms N) i k).2] ∧ Ints .i64 w' s' (openT (terms N) i k).1 ∧ Sep B w' (pgA p N :: R) ∧ Below B w w' :=
    fun e w' he hs hb => ⟨⟨none, 0, 0⟩, by rw [he], by rw [he]; exact Ints.nil, hs, hb⟩
  refine (rhas_spec (s := ⟨some (newA w), 2, 2⟩) (T := terms N) (by rw [terms_len, ← hsl]; exact hS0.cell0 0 rfl rfl) hI).mono ?_
  rintro _ w2 ⟨rfl, hs2⟩
  have h1 := h0.same hs2
  have hS := hS0.same hs2
  have hB1 := hB0.trans (hs2.below B)
  refine ⟨_, rfl, cond_not (fun hb => none' _ _ ?_ h1 hB1) fun hb => ?_⟩
  · unfold openT; rw [if_pos (by rw [← two_in]; exact of_decide_eq_false hb)]
  have hb := two_in.1 (of_decide_eq_true hb)
  obtain ⟨sx, hx⟩ := at_in hb.1
  have hi : 0 ≤ i ∧ i < (N.length : Int) := by have := hb.1; unfold inT at this; rw [terms_len] at this; exact this
  obtain ⟨q, hq, hc⟩ := hS.rowGet 1 (by omega) nodeC.w rfl hx
  have hc0 := hc 0 _ rfl
  rw [add_zero] at hc0
  have e1 : ∀ {a b : List Int × Int}, (if ¬ (inT (terms N) i ∧ inT (terms N) k) then a else b) = b := fun {a b} => if_neg (fun h => h hb)
  obtain ⟨o1, o2, o3, o4, o5, o6⟩ := ok_at hok hb.1
  refine ⟨p, rfl, _, _, _, hS.cell0 0 rfl rfl, hi.1, by omega, q, hq, _, hc0, cond_n (fun hk => none' _ _ ?_ h1 hB1) fun hk => ?_⟩
  · unfold openT; rw [e1, if_pos hk]
  have hk : (tmAt (terms N) i).kind = 6 := hk
  have hl1 : 1 ≤ (tmAt (terms N) i).args.length := by rw [hk] at o3; exact o3
  have hIa := argsAt 2 rfl hS hx
  obtain ⟨hpos, q2, hq2, hc2⟩ := arg_get hIa hl1
  refine ⟨p, rfl, _, _, _, hS.cell0 0 rfl rfl, hi.1, by omega, q, hq, _, _, _, hc 2 _ rfl, by omega, hpos, q2, hq2, _, hc2, cond_n (fun ha => none' _ _ ?_ h1 hB1) fun ha => ?_⟩
  · unfold openT; rw [e1, if_neg (by rw [hk]; decide), if_pos ha]
  have hcap := hcaps _ (List.mem_of_getElem? hx)
  have hlen := hIa.len
  have er : openT (terms N) i k = ((tmAt (terms N) i).args.drop 1, 0) := by unfold openT; rw [e1, if_neg (by rw [hk]; decide), if_neg (fun h => h ha)]
  exact ⟨p, rfl, _, _, _, hS.cell0 0 rfl rfl, hi.1, by omega, q, hq, _, _, _, hc 2 _ rfl, by omega, by (try dsimp only at hlen ⊢); omega, by (try dsimp only at hcap ⊢); omega, by omega, subSl sx 1, by rw [er]; rfl, by rw [er]; exact drop_ints hIa hcap 1 hl1, h1, hB1⟩

theorem runbox_spec {B : Nat} {w : World} {p : Addr} {N : Nds} {R : List Asn} (h : Sep B w (pgA p N :: R)) (i k : Int) :
    CallsV Tryd.prog n_trystref10_Arena_Unbox #[.pointer (some p), .int .i64 i, .int .i64 k] w fun v w' => ∃ s' : Sl, v = .tuple #[.slice s'.a s'.len s'.cap, .int .i64 (unboxT (terms N) i k).2] ∧
      Ints .i64 w' s' (unboxT (terms N) i k).1 ∧ Sep B w' (pgA p N :: R) ∧ Below B w w' := by
  refine trystref10_Arena_Unbox.lift ?_
  unfold trystref10_Arena_Unbox.main
  intro w1
  have hb1 : Below w.heap.size w w1 := below_alloc _ _
  have h0 := h.keep hb1
  have hB0 := hb1.mono h.le
  have hI : Ints .i64 w1 ⟨some (newA w), 2, 2⟩ [i, k] := ints_two i k
  clear_value w1
  obtain ⟨sl, ⟨hok, hcaps⟩, hS0⟩ := h0.unfold
  have hS0 : Sep B w1 (pgL 43 p N sl ++ R) := hS0
  have hsl : sl.len = N.length := (hS0.rowLen 1 rfl).1
  have none' : ∀ e w', unboxT (terms N) i k = ([], e) → Sep B w' (pgA p N :: R) → Below B w w' → ∃ s' : Sl, Value.tuple #[.slice none 0 0, .int .i64 e] = .tuple #[.slice s'.a s'.len s'.cap, .int .i64 (unboxT (terms N) i k).2] ∧ Ints .i64 w' s' (unboxT (terms N) i k).1 ∧ Sep B w' (pgA p N :: R) ∧ Below B w w' :=
    fun e w' he hs hb => ⟨⟨none, 0, 0⟩, by rw [he], by rw [he]; exact Ints.nil, hs, hb⟩
  refine (rhas_spec (s := ⟨some (newA w), 2, 2⟩) (T := terms N) (by rw [terms_len, ← hsl]; exact hS0.cell0 0 rfl rfl) hI).mono ?_
  rintro _ w2 ⟨rfl, hs2⟩
  have h1 := h0.same hs2
  have hS := hS0.same hs2
  have hB1 := hB0.trans (hs2.below B)
  refine ⟨_, rfl, cond_not (fun hb => none' _ _ ?_ h1 hB1) fun hb => ?_⟩
  · unfold unboxT; rw [if_pos (by rw [← two_in]; exact of_decide_eq_false hb)]
  have hb := two_in.1 (of_decide_eq_true hb)
  obtain ⟨sx, hx⟩ := at_in hb.1
  have hi : 0 ≤ i ∧ i < (N.length : Int) := by have := hb.1; unfold inT at this; rw [terms_len] at this; exact this
  obtain ⟨q, hq, hc⟩ := hS.rowGet 1 (by omega) nodeC.w rfl hx
  have hc0 := hc 0 _ rfl
  rw [add_zero] at hc0
  have e1 : ∀ {a b : List Int × Int}, (if ¬ (inT (terms N) i ∧ inT (terms N) k) then a else b) = b := fun {a b} => if_neg (fun h => h hb)
  obtain ⟨o1, o2, o3, o4, o5, o6⟩ := ok_at hok hb.1
  refine ⟨p, rfl, _, _, _, hS.cell0 0 rfl rfl, hi.1, by omega, q, hq, _, hc0, cond_n (fun hk => none' _ _ ?_ h1 hB1) fun hk => ?_⟩
  · unfold unboxT; rw [e1, if_pos hk]
  have hk : (tmAt (terms N) i).kind = 7 := hk
  have hl2 : 2 ≤ (tmAt (terms N) i).args.length := by rw [hk] at o3; exact o3
  have hS6 := hS.drew
  have hIa := argsAt 2 rfl hS6 hx
  obtain ⟨hpos, q2, hq2, hc2⟩ := arg_get hIa (by show 1 ≤ (tmAt (terms N) i).args.length; omega)
  have ha0 : 0 ≤ arg0 (tmAt (terms N) i) ∧ arg0 (tmAt (terms N) i) < i := by
    have : arg0 (tmAt (terms N) i) = (tmAt (terms N) i).args[0]'(by omega) := by unfold arg0; rw [List.getElem?_eq_getElem (by omega)]; rfl
    exact o5 _ (by rw [this]; exact List.getElem_mem _)
  have hin0 : inT (terms N) (arg0 (tmAt (terms N) i)) := by unfold inT; rw [terms_len]; omega
  obtain ⟨sy, hy⟩ := at_in hin0
  obtain ⟨q', hq', hd⟩ := hS6.rowGet 1 (by omega) nodeC.w rfl hx
  have at3 : ∀ (y : World) (j : Int) (x : Tm × Sl), Sep B y (pgL 43 p N sl ++ R) → N[j.toNat]? = some x → (∀ (n : Nat) (u : Value), (nodeC x)[n]? = some u → y.cell? ((q.add (j.toNat * 3)).add n) = some u) ∧ y.cell? (q.add (j.toNat * 3)) = some (.int .i64 x.1.kind) := by
    intro y j x hy hx
    obtain ⟨q', hq', hc⟩ := hy.rowGet 1 (by omega) nodeC.w rfl hx
    rw [hq] at hq'
    obtain rfl := Option.some.inj hq'
    have := hc 0 _ rfl
    rw [add_zero] at this
    exact ⟨hc, this⟩
  refine ⟨fun y => Sep B y (pgL 43 p N sl ++ R), hS6, p, rfl, _, _, _, fun y h => h.cell0 0 rfl rfl, p, rfl, _, _, _, fun y h => h.cell0 0 rfl rfl, hi.1, by omega, q, hq, _, _, _, fun y h => (at3 y i _ h hx).1 2 _ rfl, by omega, hpos, q2, hq2, arg0 (tmAt (terms N) i),
    fun y h => ?_, ha0.1, by omega, q, hq, _, fun y h => (at3 y _ _ h hy).2, _, fun y h => (at3 y _ _ h hy).1 1 _ rfl, _, _, _, fun y h => (at3 y _ _ h hy).1 2 _ rfl, ?_⟩
  · obtain ⟨_, q3, hq3, hc3⟩ := arg_get (argsAt 2 rfl h hx) (by show 1 ≤ (tmAt (terms N) i).args.length; omega)
    rw [hq2] at hq3
    obtain rfl := Option.some.inj hq3
    exact hc3
  intro w6
  have hb6 : Below w2.drew.heap.size w2.drew w6 := below_alloc _ _
  refine ⟨hS6.keep hb6, fun j hj => wr_new _ _ _ (by simpa using hj), ?_⟩
  intro w7
  have e7 : w7 = w2.drew.alloc (.cells #[.int .i64 (tmAt (terms N) (arg0 (tmAt (terms N) i))).kind, .int .i64 (tmAt (terms N) (arg0 (tmAt (terms N) i))).n, .slice sy.a sy.len sy.cap] 43) := box_set3
  clear_value w7
  obtain ⟨hS8, hb8⟩ := hS6.box [.int .i64 (tmAt (terms N) (arg0 (tmAt (terms N) i))).kind, .int .i64 (tmAt (terms N) (arg0 (tmAt (terms N) i))).n, .slice sy.a sy.len sy.cap] 43
  rw [show (w2.drew.alloc (.cells [Value.int .i64 (tmAt (terms N) (arg0 (tmAt (terms N) i))).kind, .int .i64 (tmAt (terms N) (arg0 (tmAt (terms N) i))).n, .slice sy.a sy.len sy.cap].toArray 43)) = w7 from e7.symm] at hS8 hb8
  have hB8 := (hB1.trans ((Same.drew w2).below B)).trans hb8
  generalize newA w2.drew = tc at hS8 ⊢
  have hP : Sep B w7 (pgA p N :: R) := Sep.fold sl ⟨hok, hcaps⟩ hS8.drop
  refine ⟨_, hS8.cell0 0 rfl rfl, cond_n (fun hk2 => none' _ _ ?_ hP hB8) fun hk2 => ?_⟩
  · unfold unboxT; rw [e1, if_neg (by rw [hk]; decide), if_pos hk2]
  have hk2 : (tmAt (terms N) (arg0 (tmAt (terms N) i))).kind = 5 := hk2
  obtain ⟨y1, y2, y3, y4, y5, y6⟩ := ok_at hok hin0
  have hly : 1 ≤ (tmAt (terms N) (arg0 (tmAt (terms N) i))).args.length := by rw [hk2] at y3; exact y3
  obtain ⟨hpos3, q5, hq5, hc5⟩ := arg_get (argsAt 3 rfl hS8 hy) hly
  refine ⟨_, _, _, hS8.cell 0 rfl 2 rfl, by omega, hpos3, q5, hq5, _, hc5, cond_n (fun ha => none' _ _ ?_ hP hB8) fun ha => ?_⟩
  · unfold unboxT; rw [e1, if_neg (by rw [hk]; decide), if_neg (by rw [hk2]; decide), if_pos ha]
  have ha : arg0 (tmAt (terms N) (arg0 (tmAt (terms N) i))) = k := ha
  have hcap := hcaps _ (List.mem_of_getElem? hx)
  have hS9 := hS8.drop
  have hI8 := argsAt 2 rfl hS9 hx
  have hlen := hI8.len
  unfold trystref10_Arena_Unbox.c1
  have er : unboxT (terms N) i k = ((tmAt (terms N) i).args.drop 2, 0) := by unfold unboxT; rw [e1, if_neg (by rw [hk]; decide), if_neg (by rw [hk2]; decide), if_neg (fun h => h ha)]
  exact ⟨p, rfl, _, _, _, hS9.cell0 0 rfl rfl, hi.1, by omega, q, hq, _, _, _, (at3 _ _ _ hS9 hx).1 2 _ rfl, by omega, by (try dsimp only at hlen ⊢); omega, by (try dsimp only at hcap ⊢); omega, by omega, subSl sx 2, by rw [er]; rfl, by rw [er]; exact drop_ints hI8 hcap 2 hl2, hP, hB8⟩

theorem rsigned_spec {B : Nat} {w : World} {p : Addr} {N : Nds} {R : List Asn} (h : Sep B w (pgA p N :: R)) (i k : Int) :
    CallsV Tryd.prog n_trystref10_Arena_Signed #[.pointer (some p), .int .i64 i, .int .i64 k] w fun v w' => ∃ s' : Sl, v = .tuple #[.slice s'.a s'.len s'.cap, .int .i64 (signedT (terms N) i k).2] ∧
      Ints .i64 w' s' (signedT (terms N) i k).1 ∧ Sep B w' (pgA p N :: R) ∧ Below B w w' := by
  refine trystref10_Arena_Signed.lift ?_
  unfold trystref10_Arena_Signed.main
  intro w1
  have hb1 : Below w.heap.size w w1 := below_alloc _ _
  have h0 := h.keep hb1
  have hB0 := hb1.mono h.le
  have hI : Ints .i64 w1 ⟨some (newA w), 2, 2⟩ [i, k] := ints_two i k
  clear_value w1
  obtain ⟨sl, ⟨hok, hcaps⟩, hS0⟩ := h0.unfold
  have hS0 : Sep B w1 (pgL 43 p N sl ++ R) := hS0
  have hsl : sl.len = N.length := (hS0.rowLen 1 rfl).1
  have none' : ∀ e w', signedT (terms N) i k = ([], e) → Sep B w' (pgA p N :: R) → Below B w w' → ∃ s' : Sl, Value.tuple #[.slice none 0 0, .int .i64 e] = .tuple #[.slice s'.a s'.len s'.cap, .int .i64 (signedT (terms N) i k).2] ∧ Ints .i64 w' s' (signedT (terms N) i k).1 ∧ Sep B w' (pgA p N :: R) ∧ Below B w w' :=
    fun e w' he hs hb => ⟨⟨none, 0, 0⟩, by rw [he], by rw [he]; exact Ints.nil, hs, hb⟩
  refine (rhas_spec (s := ⟨some (newA w), 2, 2⟩) (T := terms N) (by rw [terms_len, ← hsl]; exact hS0.cell0 0 rfl rfl) hI).mono ?_
  rintro _ w2 ⟨rfl, hs2⟩
  have h1 := h0.same hs2
  have hS := hS0.same hs2
  have hB1 := hB0.trans (hs2.below B)
  refine ⟨_, rfl, cond_not (fun hb => none' _ _ ?_ h1 hB1) fun hb => ?_⟩
  · unfold signedT; rw [if_pos (by rw [← two_in]; exact of_decide_eq_false hb)]
  have hb := two_in.1 (of_decide_eq_true hb)
  obtain ⟨sx, hx⟩ := at_in hb.1
  obtain ⟨sy, hy⟩ := at_in hb.2
  have hi : 0 ≤ i ∧ i < (N.length : Int) := by have := hb.1; unfold inT at this; rw [terms_len] at this; exact this
  have hk : 0 ≤ k ∧ k < (N.length : Int) := by have := hb.2; unfold inT at this; rw [terms_len] at this; exact this
  obtain ⟨q, hq, hc⟩ := hS.rowGet 1 (by omega) nodeC.w rfl hx
  have hc0 := hc 0 _ rfl
  rw [add_zero] at hc0
  obtain ⟨q', hq', hd⟩ := hS.rowGet 1 (by omega) nodeC.w rfl hy
  have hd0 := hd 0 _ rfl
  rw [add_zero] at hd0
  have e1 : ∀ {a b : List Int × Int}, (if ¬ (inT (terms N) i ∧ inT (terms N) k) then a else b) = b := fun {a b} => if_neg (fun h => h hb)
  obtain ⟨o1, o2, o3, o4, o5, o6⟩ := ok_at hok hb.1
  obtain ⟨y1, y2, y3, y4, y5, y6⟩ := ok_at hok hb.2
  refine ⟨p, rfl, _, _, _, hS.cell0 0 rfl rfl, hi.1, by omega, q, hq, _, hc0, cond_n (fun hk1 => none' _ _ ?_ h1 hB1) fun hk1 => ⟨p, rfl, _, _, _, hS.cell0 0 rfl rfl, hk.1, by omega, q', hq', _, hd0, cond_n (fun hk2 => none' _ _ ?_ h1 hB1) fun hk2 => ?_⟩⟩
  · unfold signedT; rw [e1, if_pos hk1]
  · unfold signedT; rw [e1, if_neg (fun h => h hk1), if_pos hk2]
  have hk1 : (tmAt (terms N) i).kind = 8 := hk1
  have hk2 : (tmAt (terms N) k).kind = 5 := hk2
  have l1 : 1 ≤ (tmAt (terms N) i).args.length := by rw [hk1] at o3; exact o3
  have l2 : 1 ≤ (tmAt (terms N) k).args.length := by rw [hk2] at y3; exact y3
  have hIa := argsAt 2 rfl hS hx
  obtain ⟨p1, q1, hq1, c1⟩ := arg_get hIa l1
  obtain ⟨p2, q2, hq2, c2⟩ := arg_get (argsAt 2 rfl hS hy) l2
  unfold trystref10_Arena_Signed.c1
  refine ⟨p, rfl, _, _, _, hS.cell0 0 rfl rfl, hi.1, by omega, q, hq, _, _, _, hc 2 _ rfl, by omega, p1, q1, hq1, _, c1, p, rfl, _, _, _, hS.cell0 0 rfl rfl, hk.1, by omega, q', hq', _, _, _, hd 2 _ rfl, by omega, p2, q2, hq2, _, c2,
    cond_n (fun ha => none' _ _ ?_ h1.drew (hB1.trans ((Same.drew w2).below B))) fun ha => ?_⟩
  · unfold signedT; rw [e1, if_neg (by rw [hk1]; decide), if_neg (by rw [hk2]; decide), if_pos ha]
  have hcap := hcaps _ (List.mem_of_getElem? hx)
  have hlen := hIa.len
  have er : signedT (terms N) i k = ((tmAt (terms N) i).args.drop 1, 0) := by unfold signedT; rw [e1, if_neg (by rw [hk1]; decide), if_neg (by rw [hk2]; decide), if_neg (fun h => h ha)]
  exact ⟨p, rfl, _, _, _, hS.drew.cell0 0 rfl rfl, hi.1, by omega, q, hq, _, _, _, hc 2 _ rfl, by omega, by (try dsimp only at hlen ⊢); omega, by (try dsimp only at hcap ⊢); omega, by omega, subSl sx 1, by rw [er]; rfl, by rw [er]; exact drop_ints hIa.drew hcap 1 l1, h1.drew, hB1.trans ((Same.drew w2).below B)⟩

end Go.Proofs.YtpihglmgkfecbaaDoor
