/-
  Terms: sealed, boxed, signed: opened with just the key.
-/
import Derived.Test.YtpihglmgkfecbaaDoorTmK
set_option linter.unusedVariables false
set_option linter.unusedSimpArgs false
namespace Go.Proofs.YtpihglmgkfecbaaDoor
open Go.Lf Go.RowKit

theorem build_len (l : List Stp) : (buildT l).length ≤ 150 := by
  have : ∀ (l : List Stp) (T : List Tm), (l.foldl (fun T x => (put T (stepT T x)).1) T).length ≤ T.length + l.length := by
    intro l
    induction l with
    | nil => intro T; simp
    | cons x l ih =>
      intro T
      have h1 := ih (put T (stepT T x)).1
      have h2 := put_len T (stepT T x)
      simp only [List.foldl_cons, List.length_cons]
      omega
  have h := this (l.take 150) []
  rw [List.length_take] at h
  unfold buildT
  simp only [List.length_nil] at h
  omega

theorem err_ok {T : List Tm} {t : Tm} (h1 : 1 ≤ t.kind ∧ t.kind ≤ 9) (h2 : t.n = 0) (h3 : least t.kind ≤ t.args.length) (h4 : t.args.length ≤ mostOf t.kind) (h5 : ∀ x ∈ t.args, inT T x) : errOf T t = 0 := by
  unfold errOf
  rw [if_neg (by omega), if_neg (by rw [h2]; omega), if_neg (by omega), if_neg (fun h => h h5)]

set_option maxRecDepth 100000 in
set_option maxHeartbeats 2000000 in
theorem keys_spec {W : World} (hT : PT W.heap.size W) {s : Sl} {l : List Stp} (h : Stps W s l) {sp : Sl} {parts : List Int} (hp : Ints .i64 W sp parts) (key other : Int) :
    CallsV Tryd.prog n_trystlaw10_TermKeys #[.slice s.a s.len s.cap, .int .i64 key, .int .i64 other, .slice sp.a sp.len sp.cap] W fun v w' => v = .bool true ∧ Below W.heap.size W w' := by
  refine trystlaw10_TermKeys.lift ?_
  unfold trystlaw10_TermKeys.main
  refine (heavy_spec h).mono ?_
  rintro _ _ ⟨rfl, rfl⟩
  refine ⟨_, rfl, cond_c (fun _ => ⟨rfl, Below.refl _ _⟩) fun hh => ?_⟩
  refine cond_d (p := (((sp.len : Nat) : Int) : Int) > 20) (fun _ => ⟨rfl, Below.refl _ _⟩) fun h20 => ?_
  unfold trystlaw10_TermKeys.c6
  refine (lawBuild hT h hh).mono ?_
  rintro _ w1 ⟨a, b, Na, Nb, rfl, hNa, hNb, h1, hB1⟩
  refine ⟨_, _, _, rfl, cond_f' rfl ?_⟩
  have hpl := hp.len
  have hp1 := hp.keep hB1
  obtain ⟨B, hBe⟩ : ∃ B, B = W.heap.size := ⟨_, rfl⟩
  rw [← hBe] at hT h1 hB1 ⊢
  have h1 : Sep B w1 [arA a Na] := h1.swap.drop
  generalize hRR : (fun (v : Value) (w' : World) => v = .bool true ∧ Below B W w') = RR
  have wk : ∀ w5 R, Sep B w5 R → Below B W w5 → CallsV Tryd.prog n_trystlaw10_wakes #[] w5 (fun v_10 w6 => ∃ b_11 : Bool, v_10 = .bool b_11 ∧ RR (.bool b_11) w6) := by
    intro w5 R h5 hB5
    refine (wakes_spec h5 (hT.on hB5)).mono ?_
    rintro _ w9 ⟨rfl, h9, hb9⟩
    refine ⟨_, rfl, ?_⟩
    rw [← hRR]
    exact ⟨rfl, hB5.trans hb9⟩
  obtain ⟨xa, ca, hca⟩ := arLen h1
  refine (len_spec hca).mono ?_
  rintro _ _ ⟨rfl, rfl⟩
  have hTl : (terms Na).length ≤ 150 := by rw [hNa]; exact build_len l
  refine ⟨_, rfl, cond_e (fun _ => wk _ _ h1 hB1) fun hne => cond_d (fun _ => wk _ _ h1 hB1) fun hk0 => cond_d (fun _ => wk _ _ h1 hB1) fun ho0 => ?_⟩
  unfold trystlaw10_TermKeys.c5
  refine (len_spec hca).mono ?_
  rintro _ _ ⟨rfl, rfl⟩
  generalize hn : (((terms Na).length : Nat) : Int) = n at hne ⊢
  refine ⟨_, rfl, hne, hne, ?_⟩
  have hnpos : 0 < n := by omega
  have h2 := h1.drew
  have hB2 := hB1.trans ((Same.drew w1).below B)
  refine (some_spec hp1.drew (by omega) n).mono ?_
  rintro _ w3 ⟨si, rfl, oi, hb3⟩
  have h3 := (Sep.row h2 oi hb3).swap
  have hB3 := hB2.trans (hb3.mono h2.le)
  refine ⟨_, _, _, rfl, ?_⟩
  rw [tmod_nn (by omega), tmod_nn (by omega)]
  have hxl : (someI parts n).length = parts.length := by simp [someI]
  generalize hxs : someI parts n = xs at oi h3 hxl
  have hk1 : 0 ≤ key % n ∧ key % n < n := ⟨Int.emod_nonneg _ hne, Int.emod_lt_of_pos _ hnpos⟩
  have ho1 : 0 ≤ other % n ∧ other % n < n := ⟨Int.emod_nonneg _ hne, Int.emod_lt_of_pos _ hnpos⟩
  generalize key % n = ky at hk1 ⊢
  generalize other % n = oy at ho1 ⊢
  have hI3 : Ints .i64 w3 si xs := rowInts 1 rfl h3 (by omega)
  have hil := hI3.len
  unfold trystlaw10_TermKeys.l4
  refine ⟨fun t w' => w3 = w' ∧ ∃ j : Nat, t = j ∧ j ≤ xs.length ∧ ∀ x ∈ xs.take j, 0 ≤ x, fun t _ => xs.length - t.toNat, ⟨rfl, 0, rfl, Nat.zero_le _, by simp⟩, ?_⟩
  rintro _ _ ⟨rfl, j, rfl, hj, hall⟩
  unfold trystlaw10_TermKeys.b4
  refine cond_d (p := ((j : Nat) : Int) < ((si.len : Nat) : Int)) (fun hjl => ?_) fun hjg => ?_
  · obtain ⟨q, hq, hc⟩ := hI3.get (i := (j : Int)) (by omega) hjl
    have hj' : j < xs.length := by omega
    rw [Int.toNat_natCast, List.getElem?_eq_getElem hj', Option.getD_some] at hc
    refine ⟨by omega, hjl, q, hq, _, by rw [Int.toNat_natCast]; exact hc, cond_d (fun _ => wk _ _ h3 hB3) fun hx0 => ?_⟩
    rw [inc (by omega)]
    refine ⟨⟨rfl, rfl, rfl, rfl, rfl, j + 1, rfl, by omega, ?_⟩, by (try dsimp only); omega⟩
    intro x hx
    rw [List.take_succ_eq_append_getElem hj', List.mem_append, List.mem_singleton] at hx
    rcases hx with hx | rfl
    · exact hall x hx
    · omega
  rw [List.take_of_length_le (by omega)] at hall
  have hxr : ∀ x ∈ xs, 0 ≤ x ∧ x < n := by
    intro x hx
    have hx0 := hall x hx
    refine ⟨hx0, ?_⟩
    rw [← hxs] at hx
    unfold someI at hx
    obtain ⟨y, hy, rfl⟩ := List.mem_map.1 hx
    split
    · exact Int.emod_lt_of_pos _ hnpos
    · rename_i hc
      rw [if_neg hc] at hx0
      omega
  clear hall hjg
  have hinN : ∀ {T : List Tm}, (∀ i, inT (terms Na) i → inT T i) → ∀ x, 0 ≤ x ∧ x < n → inT T x := fun hm x hx => hm x (by unfold inT; omega)
  obtain ⟨i, hi, hz, hsz, hby⟩ := t3
  -- one more is made
  have step : ∀ (w4 : World) (N : Nds) (st : Sl) (t : Tm), Sep B w4 (ownA st t.args :: arA a N :: [ownA si xs]) → Below B W w4 → t.n = 0 → t.args.length ≤ 400 → CallsV Tryd.prog n_term_Arena_Make #[.pointer (some a), .int .i64 t.kind, .int .i64 t.n, .slice st.a st.len st.cap] w4 fun v w5 =>
      ∃ N', v = .tuple #[.int .i64 (put (terms N) t).2.1, .int .i64 (put (terms N) t).2.2] ∧ terms N' = (put (terms N) t).1 ∧ Sep B w5 [arA a N', ownA si xs] ∧ Below B W w5 := by
    intro w4 N st t h4 hB4 h0 hl
    refine (make_spec h4.swap (hT.on hB4) (by rw [h0]; omega) (fun X w' hs _ => rowInts 1 rfl hs (by omega))).mono ?_
    rintro _ w5 ⟨m, rfl, e, h5, hb5⟩
    exact ⟨_, rfl, e, Sep.mid (L := [arA a (N ++ m)]) h5, hB4.trans hb5⟩
  -- numbers, and the parts behind them
  have app : ∀ (w4 : World) (N : Nds) (ys : List Int), Sep B w4 [arA a N, ownA si xs] → Below B W w4 → ys.length ≤ 10 → ∃ (s' : Sl) (w5 : World), (builtin .append #[29, 29] 29 #[] #[.slice (some (newA w4)) ys.length ys.length, .slice si.a si.len si.cap]).run Tryd.prog (w4.alloc (.cells (ys.map (Value.int .i64)).toArray 3)) = .ok (.value (.slice s'.a s'.len s'.cap)) w5 ∧
      Sep B w5 (ownA s' (ys ++ xs) :: arA a N :: [ownA si xs]) ∧ Below B W w5 := by
    intro w4 N ys h4 hB4 hyl
    have hb5 : Below w4.heap.size w4 (w4.alloc (.cells (ys.map (Value.int .i64)).toArray 3)) := below_alloc _ _
    have ho5 : OwnI w4.heap.size 3 .i64 (w4.alloc (.cells (ys.map (Value.int .i64)).toArray 3)) ⟨some (newA w4), ys.length, ys.length⟩ ys := made_ints (by unfold maxLen; omega)
    obtain ⟨s6, w6, hr, ho6, hb6⟩ := append_more (ty := 29) Tryd.underlying29 hi hz hsz hby rfl ho5 hb5.size ((rowInts (xs := xs) 1 rfl h4 (by omega)).keep hb5) (by unfold maxLen; omega) (by omega)
    exact ⟨s6, w6, hr, Sep.row h4 ho6 (hb5.trans hb6), hB4.trans ((hb5.trans hb6).mono h4.le)⟩
  have one : ∀ (w4 : World) (N : Nds) (y : Int), Sep B w4 [arA a N, ownA si xs] → Below B W w4 → Sep B (w4.alloc (.cells #[.int .i64 y] 3)) (ownA ⟨some (newA w4), 1, 1⟩ [y] :: arA a N :: [ownA si xs]) ∧ Below B W (w4.alloc (.cells #[.int .i64 y] 3)) := by
    intro w4 N y h4 hB4
    have hb5 : Below w4.heap.size w4 (w4.alloc (.cells #[.int .i64 y] 3)) := below_alloc _ _
    exact ⟨Sep.row h4 (made_ints (xs := [y]) (by simp [maxLen])) hb5, hB4.trans (hb5.mono h4.le)⟩
  unfold trystlaw10_TermKeys.c3
  intro w12
  -- sealed
  obtain ⟨s13, w13, hr13, h13, hB13⟩ := app w3 Na [ky] h3 hB3 (by simp)
  refine ⟨_, _, _, _, hr13, ?_⟩
  refine (step w13 Na s13 ⟨6, 0, [ky] ++ xs⟩ h13 hB13 rfl (by simp; omega)).mono ?_
  rintro _ w14 ⟨N1, rfl, e1, h14, hB14⟩
  have er1 : errOf (terms Na) ⟨6, 0, [ky] ++ xs⟩ = 0 := err_ok (by simp) rfl (by simp [least]) (by simp [mostOf]; omega) (by
    intro x hx
    simp only [List.singleton_append, List.mem_cons] at hx
    rcases hx with rfl | hx
    · exact hinN (fun _ h => h) _ hk1
    · exact hinN (fun _ h => h) _ (hxr x hx))
  obtain ⟨z1, i1, a1⟩ := put_at er1 (by omega)
  have m1 : ∀ i, inT (terms Na) i → inT (terms N1) i ∧ tmAt (terms N1) i = tmAt (terms Na) i := fun i hi => by rw [e1]; exact put_stay _ _ hi
  have l1 := put_len (terms Na) ⟨6, 0, [ky] ++ xs⟩
  rw [← e1] at l1 i1 a1
  rw [z1]
  refine ⟨_, _, rfl, ?_⟩
  generalize (put (terms Na) ⟨6, 0, [ky] ++ xs⟩).2.1 = vs at i1 a1 ⊢
  -- the public key
  intro w15
  obtain ⟨h15, hB15⟩ := one w14 N1 ky h14 hB14
  refine (step _ N1 ⟨some (newA w14), 1, 1⟩ ⟨5, 0, [ky]⟩ h15 hB15 rfl (by simp)).mono ?_
  rintro _ w16 ⟨N2, rfl, e2, h16, hB16⟩
  have er2 : errOf (terms N1) ⟨5, 0, [ky]⟩ = 0 := err_ok (by simp) rfl (by simp [least]) (by simp [mostOf]) (by
    intro x hx
    simp only [List.mem_singleton] at hx
    subst hx
    exact hinN (fun _ h => (m1 _ h).1) _ hk1)
  obtain ⟨z2, i2, a2⟩ := put_at er2 (by omega)
  have m2 : ∀ i, inT (terms N1) i → inT (terms N2) i ∧ tmAt (terms N2) i = tmAt (terms N1) i := fun i hi => by rw [e2]; exact put_stay _ _ hi
  have l2 := put_len (terms N1) ⟨5, 0, [ky]⟩
  rw [← e2] at l2 i2 a2
  rw [z2]
  refine ⟨_, _, rfl, ?_⟩
  generalize (put (terms N1) ⟨5, 0, [ky]⟩).2.1 = vp at i2 a2 ⊢
  -- boxed
  intro w17
  obtain ⟨s18, w18, hr18, h18, hB18⟩ := app w16 N2 [vp, oy] h16 hB16 (by simp)
  refine ⟨_, _, _, _, hr18, ?_⟩
  refine (step w18 N2 s18 ⟨7, 0, [vp, oy] ++ xs⟩ h18 hB18 rfl (by simp; omega)).mono ?_
  rintro _ w19 ⟨N3, rfl, e3, h19, hB19⟩
  have er3 : errOf (terms N2) ⟨7, 0, [vp, oy] ++ xs⟩ = 0 := err_ok (by simp) rfl (by simp [least]) (by simp [mostOf]; omega) (by
    intro x hx
    simp only [List.cons_append, List.nil_append, List.mem_cons] at hx
    rcases hx with rfl | rfl | hx
    · exact i2
    · exact hinN (fun _ h => (m2 _ (m1 _ h).1).1) _ ho1
    · exact hinN (fun _ h => (m2 _ (m1 _ h).1).1) _ (hxr x hx))
  obtain ⟨z3, i3, a3⟩ := put_at er3 (by omega)
  have m3 : ∀ i, inT (terms N2) i → inT (terms N3) i ∧ tmAt (terms N3) i = tmAt (terms N2) i := fun i hi => by rw [e3]; exact put_stay _ _ hi
  have l3 := put_len (terms N2) ⟨7, 0, [vp, oy] ++ xs⟩
  rw [← e3] at l3 i3 a3
  rw [z3]
  refine ⟨_, _, rfl, ?_⟩
  generalize (put (terms N2) ⟨7, 0, [vp, oy] ++ xs⟩).2.1 = vb at i3 a3 ⊢
  -- signed
  intro w20
  obtain ⟨s21, w21, hr21, h21, hB21⟩ := app w19 N3 [ky] h19 hB19 (by simp)
  refine ⟨_, _, _, _, hr21, ?_⟩
  refine (step w21 N3 s21 ⟨8, 0, [ky] ++ xs⟩ h21 hB21 rfl (by simp; omega)).mono ?_
  rintro _ w22 ⟨N4, rfl, e4, h22, hB22⟩
  have er4 : errOf (terms N3) ⟨8, 0, [ky] ++ xs⟩ = 0 := err_ok (by simp) rfl (by simp [least]) (by simp [mostOf]; omega) (by
    intro x hx
    simp only [List.singleton_append, List.mem_cons] at hx
    rcases hx with rfl | hx
    · exact hinN (fun _ h => (m3 _ (m2 _ (m1 _ h).1).1).1) _ hk1
    · exact hinN (fun _ h => (m3 _ (m2 _ (m1 _ h).1).1).1) _ (hxr x hx))
  obtain ⟨z4, i4, a4⟩ := put_at er4 (by omega)
  have m4 : ∀ i, inT (terms N3) i → inT (terms N4) i ∧ tmAt (terms N4) i = tmAt (terms N3) i := fun i hi => by rw [e4]; exact put_stay _ _ hi
  have l4 := put_len (terms N3) ⟨8, 0, [ky] ++ xs⟩
  rw [← e4] at l4 i4 a4
  rw [z4]
  refine ⟨_, _, rfl, ?_⟩
  generalize (put (terms N3) ⟨8, 0, [ky] ++ xs⟩).2.1 = vt at i4 a4 ⊢
  -- the other public key
  intro w23
  obtain ⟨h23, hB23⟩ := one w22 N4 oy h22 hB22
  refine (step _ N4 ⟨some (newA w22), 1, 1⟩ ⟨5, 0, [oy]⟩ h23 hB23 rfl (by simp)).mono ?_
  rintro _ w24 ⟨N5, rfl, e5, h24, hB24⟩
  have er5 : errOf (terms N4) ⟨5, 0, [oy]⟩ = 0 := err_ok (by simp) rfl (by simp [least]) (by simp [mostOf]) (by
    intro x hx
    simp only [List.mem_singleton] at hx
    subst hx
    exact hinN (fun _ h => (m4 _ (m3 _ (m2 _ (m1 _ h).1).1).1).1) _ ho1)
  obtain ⟨z5, i5, a5⟩ := put_at er5 (by omega)
  have m5 : ∀ i, inT (terms N4) i → inT (terms N5) i ∧ tmAt (terms N5) i = tmAt (terms N4) i := fun i hi => by rw [e5]; exact put_stay _ _ hi
  rw [← e5] at i5 a5
  rw [z5]
  refine ⟨_, _, rfl, cond_n (fun h => absurd rfl h) fun _ => cond_n (fun h => absurd rfl h) fun _ => cond_n (fun h => absurd rfl h) fun _ => cond_n (fun h => absurd rfl h) fun _ => cond_n (fun h => absurd rfl h) fun _ => ?_⟩
  generalize (put (terms N4) ⟨5, 0, [oy]⟩).2.1 = vq at i5 a5 ⊢
  -- what there is
  have up5 : ∀ {i : Int}, inT (terms N4) i → inT (terms N5) i ∧ tmAt (terms N5) i = tmAt (terms N4) i := fun h => m5 _ h
  have up4 : ∀ {i : Int}, inT (terms N3) i → inT (terms N5) i ∧ tmAt (terms N5) i = tmAt (terms N3) i := fun h => ⟨(m5 _ (m4 _ h).1).1, ((m5 _ (m4 _ h).1).2).trans (m4 _ h).2⟩
  have up3 : ∀ {i : Int}, inT (terms N2) i → inT (terms N5) i ∧ tmAt (terms N5) i = tmAt (terms N2) i := fun h => ⟨(up4 (m3 _ h).1).1, ((up4 (m3 _ h).1).2).trans (m3 _ h).2⟩
  have up2 : ∀ {i : Int}, inT (terms N1) i → inT (terms N5) i ∧ tmAt (terms N5) i = tmAt (terms N1) i := fun h => ⟨(up3 (m2 _ h).1).1, ((up3 (m2 _ h).1).2).trans (m2 _ h).2⟩
  have up1 : ∀ {i : Int}, inT (terms Na) i → inT (terms N5) i := fun h => (up2 (m1 _ h).1).1
  have tS : inT (terms N5) vs ∧ tmAt (terms N5) vs = ⟨6, 0, [ky] ++ xs⟩ := ⟨(up2 i1).1, by rw [(up2 i1).2, a1]⟩
  have tP : inT (terms N5) vp ∧ tmAt (terms N5) vp = ⟨5, 0, [ky]⟩ := ⟨(up3 i2).1, by rw [(up3 i2).2, a2]⟩
  have tB : inT (terms N5) vb ∧ tmAt (terms N5) vb = ⟨7, 0, [vp, oy] ++ xs⟩ := ⟨(up4 i3).1, by rw [(up4 i3).2, a3]⟩
  have tG : inT (terms N5) vt ∧ tmAt (terms N5) vt = ⟨8, 0, [ky] ++ xs⟩ := ⟨(up5 i4).1, by rw [(up5 i4).2, a4]⟩
  have tQ : inT (terms N5) vq ∧ tmAt (terms N5) vq = ⟨5, 0, [oy]⟩ := ⟨i5, a5⟩
  have tK : inT (terms N5) ky := up1 (hinN (fun _ h => h) _ hk1)
  have tO : inT (terms N5) oy := up1 (hinN (fun _ h => h) _ ho1)
  have r1 : openT (terms N5) vs ky = (xs, 0) := by
    unfold openT; rw [if_neg (fun h => h ⟨tS.1, tK⟩), tS.2]; simp [arg0]
  have r2 : unboxT (terms N5) vb ky = (xs, 0) := by
    unfold unboxT; rw [if_neg (fun h => h ⟨tB.1, tK⟩), tB.2]; simp [arg0, tP.2]
  have r3 : signedT (terms N5) vt vp = (xs, 0) := by
    unfold signedT; rw [if_neg (fun h => h ⟨tG.1, tP.1⟩), tG.2, tP.2]; simp [arg0]
  unfold trystlaw10_TermKeys.c2
  refine (open_spec h24 vs ky).mono ?_
  rintro _ w25 ⟨s25, rfl, h25, hb25⟩
  rw [r1] at h25 ⊢
  refine ⟨_, _, _, _, rfl, (unbox_spec h25.swap vb ky).mono ?_⟩
  rintro _ w26 ⟨s26, rfl, h26, hb26⟩
  rw [r2] at h26 ⊢
  refine ⟨_, _, _, _, rfl, (signed_spec h26.swap vt vp).mono ?_⟩
  rintro _ w27 ⟨s27, rfl, h27, hb27⟩
  rw [r3] at h27 ⊢
  have hB27 := ((hB24.trans hb25).trans hb26).trans hb27
  have h27 : Sep B w27 [ownA s27 xs, arA a N5, ownA s26 xs, ownA s25 xs, ownA si xs] := h27
  refine ⟨_, _, _, _, rfl, cond_n (fun h => absurd rfl h) fun _ => cond_n (fun h => absurd rfl h) fun _ => cond_n (fun h => absurd rfl h) fun _ => ?_⟩
  refine (ints_spec (s := s25) (t := si) (rowInts (xs := xs) 3 rfl h27 (by omega)) (rowInts (xs := xs) 4 rfl h27 (by omega))).mono ?_
  rintro _ w28 ⟨rfl, hs28⟩
  have h28 := h27.same hs28
  refine ⟨_, rfl, cond_f' (by simp) ?_⟩
  refine (ints_spec (s := s26) (t := si) (rowInts (xs := xs) 2 rfl h28 (by omega)) (rowInts (xs := xs) 4 rfl h28 (by omega))).mono ?_
  rintro _ w29 ⟨rfl, hs29⟩
  have h29 := h28.same hs29
  refine ⟨_, rfl, cond_f' (by simp) ?_⟩
  refine (ints_spec (s := s27) (t := si) (rowInts (xs := xs) 0 rfl h29 (by omega)) (rowInts (xs := xs) 4 rfl h29 (by omega))).mono ?_
  rintro _ w30 ⟨rfl, hs30⟩
  have h30 := h29.same hs30
  have hB30 := ((hB27.trans (hs28.below B)).trans (hs29.below B)).trans (hs30.below B)
  refine ⟨_, rfl, cond_f' (by simp) ?_⟩
  unfold trystlaw10_TermKeys.c1
  refine cond_e (fun _ => wk _ _ h30 hB30) fun hkne => ?_
  have q1 : openT (terms N5) vs oy = ([], 3) := by
    unfold openT; rw [if_neg (fun h => h ⟨tS.1, tO⟩), tS.2]; simp [arg0, hkne]
  have q2 : unboxT (terms N5) vb oy = ([], 3) := by
    unfold unboxT; rw [if_neg (fun h => h ⟨tB.1, tO⟩), tB.2]; simp [arg0, tP.2, hkne]
  have q3 : signedT (terms N5) vt vq = ([], 15) := by
    unfold signedT; rw [if_neg (fun h => h ⟨tG.1, tQ.1⟩), tG.2, tQ.2]; simp [arg0, hkne]
  refine (open_spec h30.swap vs oy).mono ?_
  rintro _ w31 ⟨s31, rfl, h31, hb31⟩
  rw [q1] at h31 ⊢
  refine ⟨_, _, _, _, rfl, (unbox_spec h31.swap vb oy).mono ?_⟩
  rintro _ w32 ⟨s32, rfl, h32, hb32⟩
  rw [q2] at h32 ⊢
  refine ⟨_, _, _, _, rfl, (signed_spec h32.swap vt vq).mono ?_⟩
  rintro _ w33 ⟨s33, rfl, h33, hb33⟩
  rw [q3] at h33 ⊢
  refine ⟨_, _, _, _, rfl, cond_t rfl (cond_t rfl (cond_t rfl (wk _ _ h33 (((hB30.trans hb31).trans hb32).trans hb33))))⟩

end Go.Proofs.YtpihglmgkfecbaaDoor
