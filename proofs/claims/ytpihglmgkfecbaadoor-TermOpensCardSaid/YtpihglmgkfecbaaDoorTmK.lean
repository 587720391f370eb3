/-
  Terms: as many arguments as may be; opened with just the key.
-/
import Derived.Test.YtpihglmgkfecbaaDoorTmJ
set_option linter.unusedVariables false
set_option linter.unusedSimpArgs false
namespace Go.Proofs.YtpihglmgkfecbaaDoor
open Go.Lf Go.RowKit

theorem put_at {T : List Tm} {t : Tm} (h : errOf T t = 0) (hl : T.length < 1048576) : (put T t).2.2 = 0 ∧ inT (put T t).1 (put T t).2.1 ∧ tmAt (put T t).1 (put T t).2.1 = t := by
  cases hp : place T t with
  | some i =>
    rw [put_is h hp]
    have hi := place_some hp
    have hlt := (List.getElem?_eq_some_iff.1 hi).1
    refine ⟨rfl, ⟨by simp only; omega, by simp only; omega⟩, ?_⟩
    unfold tmAt
    simp only [Int.toNat_natCast]
    rw [hi]; rfl
  | none =>
    rw [put_new h hp (by omega)]
    refine ⟨rfl, ⟨by simp only; omega, by simp only [List.length_append, List.length_singleton]; omega⟩, ?_⟩
    unfold tmAt
    simp

theorem put_stay (T : List Tm) (t : Tm) {i : Int} (hi : inT T i) : inT (put T t).1 i ∧ tmAt (put T t).1 i = tmAt T i := by
  have key : (put T t).1 = T ∨ (put T t).1 = T ++ [t] := by
    unfold put
    split
    · exact .inl rfl
    · split
      · exact .inl rfl
      · split
        · exact .inl rfl
        · exact .inr rfl
  rcases key with h | h
  · rw [h]; exact ⟨hi, rfl⟩
  · rw [h]
    unfold inT at *
    refine ⟨⟨hi.1, by rw [List.length_append, List.length_singleton]; omega⟩, ?_⟩
    unfold tmAt
    rw [List.getElem?_append_left (by omega)]

theorem put_err {T : List Tm} {t : Tm} (hl : T.length < 1048576) : (put T t).2.2 = errOf T t ∧ (errOf T t ≠ 0 → (put T t).2.1 = 0 ∧ (put T t).1 = T) := by
  by_cases h : errOf T t = 0
  · exact ⟨by rw [h]; exact (put_at h hl).1, fun hn => absurd h hn⟩
  · rw [put_bad rfl h]; exact ⟨rfl, fun _ => ⟨rfl, rfl⟩⟩

set_option maxRecDepth 100000 in
theorem counts_spec {W : World} (hT : PT W.heap.size W) (kind n args : Int) (hn : n ≤ 9223372036854775807) :
    CallsV Tryd.prog n_trystlaw10_TermCounts #[.int .i64 kind, .int .i64 n, .int .i64 args] W fun v w' => v = .bool true ∧ Below W.heap.size W w' := by
  refine trystlaw10_TermCounts.lift ?_
  unfold trystlaw10_TermCounts.main
  refine cond_d (fun _ => ⟨rfl, Below.refl _ _⟩) fun h0 => ?_
  refine cond_d (p := args > 403) (fun _ => ⟨rfl, Below.refl _ _⟩) fun h403 => ?_
  obtain ⟨B, hBe⟩ : ∃ B, B = W.heap.size := ⟨_, rfl⟩
  have hS0 : Sep B W [] := Sep.nil (by rw [hBe]; exact Nat.le_refl _)
  rw [← hBe] at hT ⊢
  unfold trystlaw10_TermCounts.c11
  refine (new_spec hS0).mono ?_
  rintro _ w1 ⟨a, rfl, h1, hb1⟩
  refine ⟨_, rfl, cond_f' rfl ?_⟩
  refine (make_spec (t := ⟨1, 1, []⟩) (s := ⟨none, 0, 0⟩) h1 (hT.on hb1) (by show (1 : Int) ≤ _; omega) (fun _ _ _ _ => Ints.nil)).mono ?_
  rintro _ w2 ⟨m2, rfl, e2, h2, hb2⟩
  have hB2 := hb1.trans hb2
  have p2 : put (terms []) ⟨1, 1, []⟩ = ([⟨1, 1, []⟩], 0, 0) := by decide
  rw [p2] at e2 ⊢
  refine ⟨_, _, rfl, cond_n (fun h => absurd rfl h) fun _ => ?_⟩
  generalize hRR : (fun (v : Value) (w' : World) => v = .bool true ∧ Below B W w') = RR
  obtain ⟨i, hi, hz, hsz, hby⟩ := t3
  unfold trystlaw10_TermCounts.l10
  refine ⟨fun st w' => ∃ k : Nat, st.2 = k ∧ (k : Int) ≤ args ∧ Sep B w' [ownA st.1 (List.replicate k 0), arA a ([] ++ m2)] ∧ Below B W w', fun st _ => args.toNat - st.2.toNat, ⟨0, rfl, by omega, h2.rowNil 3 1, hB2⟩, ?_⟩
  rintro ⟨b, _⟩ w3 ⟨k, hk0, hk, h3, hB3⟩
  simp only at hk0 h3
  subst hk0
  unfold trystlaw10_TermCounts.b10
  refine cond_d (fun hlt => ?_) fun hge => ?_
  · intro w4
    have hb4 : Below w3.heap.size w3 w4 := below_alloc _ _
    have h4 := h3.keep hb4
    obtain ⟨s5, w5, hr, hl5, h5, hb5⟩ := Sep.append (ty := 29) (c := 1) (m := 1) Tryd.underlying29 hi hz hsz hby rfl (by omega) 0 rfl h4 (a := newA w3) (news := [.int .i64 0]) rfl (fun j u hu => by rw [← hu]; exact (cell_new w3 #[.int .i64 0] 3 j).trans (by simp))
      (by intro u hu; simp at hu; subst hu; rfl) (by rw [List.length_replicate]; unfold maxLen; omega) (by rw [List.length_replicate]; omega) (by omega)
    refine ⟨_, _, _, _, hr, ?_⟩
    rw [inc (by omega)]
    refine ⟨⟨rfl, rfl, rfl, rfl, rfl, k + 1, rfl, by omega, ?_, (hB3.trans (hb4.mono h3.le)).trans hb5⟩, by (try dsimp only); omega⟩
    have e : (List.replicate k (0 : Int)).map (Value.int .i64) ++ [Value.int .i64 0] = (List.replicate (k + 1) (0 : Int)).map (Value.int .i64) := by
      rw [List.replicate_succ', List.map_append]; rfl
    have h5' : Sep B w5 [rowA 3 1 s5 ((List.replicate k (0 : Int)).length + 1) ((List.replicate k (0 : Int)).map (Value.int .i64) ++ [Value.int .i64 0]), arA a ([] ++ m2)] := h5
    rw [e] at h5'
    have e2 : (List.replicate k (0 : Int)).length + 1 = (List.replicate (k + 1) (0 : Int)).length := by simp
    rw [e2] at h5'
    exact h5'
  · have hke : (k : Int) = args := by omega
    obtain ⟨t, ht⟩ : ∃ t : Tm, t = ⟨kind, n, List.replicate k 0⟩ := ⟨_, rfl⟩
    have htk : t.kind = kind := by rw [ht]
    have htn : t.n = n := by rw [ht]
    have hta : t.args = List.replicate k 0 := by rw [ht]
    have hin : ∀ x ∈ t.args, inT [⟨1, 1, []⟩] x := by
      intro x hx
      rw [hta] at hx
      obtain rfl := (List.mem_replicate.1 hx).2
      decide
    have c2 : ∀ want, want = errOf [⟨1, 1, []⟩] t → trystlaw10_TermCounts.c2 RR kind n args (some a) b want w3 := by
      intro want hw
      unfold trystlaw10_TermCounts.c2
      have hmk := make_spec (t := t) (s := b) h3.swap (hT.on hB3) (by rw [htn]; exact hn) (fun X w' hs _ => by rw [hta]; exact rowInts 1 rfl hs (by rw [List.length_replicate]; omega))
      rw [htk, htn] at hmk
      refine hmk.mono ?_
      rintro _ w4 ⟨m4, rfl, e4, h4, hb4⟩
      rw [e2] at e4 ⊢
      have hB4 := hB3.trans hb4
      obtain ⟨pe, pz⟩ := put_err (T := [⟨1, 1, []⟩]) (t := t) (by simp)
      refine ⟨_, _, rfl, cond_n (fun h => absurd (by rw [hw, pe]) h) fun _ => ?_⟩
      have wk : ∀ w5 R, Sep B w5 R → Below B W w5 → CallsV Tryd.prog n_trystlaw10_wakes #[] w5 (fun v_10 w6 => ∃ b_11 : Bool, v_10 = .bool b_11 ∧ RR (.bool b_11) w6) := by
        intro w5 R h5 hB5
        refine (wakes_spec h5 (hT.on hB5)).mono ?_
        rintro _ w9 ⟨rfl, h9, hb9⟩
        refine ⟨_, rfl, ?_⟩
        rw [← hRR]
        exact ⟨rfl, hB5.trans hb9⟩
      have c1 : trystlaw10_TermCounts.c1 RR kind n args (some a) want (put [⟨1, 1, []⟩] t).2.1 w4 := by
        unfold trystlaw10_TermCounts.c1
        refine cond_n (fun hne => ?_) fun he => ?_
        · obtain ⟨xa, ca, hca⟩ := arLen h4
          rw [e4, (pz (by rw [← hw]; exact hne)).2] at hca
          refine (len_spec hca).mono ?_
          rintro _ _ ⟨rfl, rfl⟩
          exact ⟨_, rfl, cond_t rfl (wk _ _ h4 hB4)⟩
        · have h0' : errOf [⟨1, 1, []⟩] t = 0 := by rw [← hw, he]
          obtain ⟨q1, q2, q3⟩ := put_at h0' (by simp)
          refine (node_spec h4 _).mono ?_
          rintro _ w5 ⟨s5, rfl, h5, hb5⟩
          have hnode : nodeT (put [⟨1, 1, []⟩] t).1 (put [⟨1, 1, []⟩] t).2.1 = (t, 0) := by unfold nodeT; rw [if_pos q2, q3]
          rw [e4, hnode] at h5 ⊢
          refine ⟨_, _, _, _, _, _, rfl, ?_⟩
          intro w6
          obtain ⟨r6, h7, b7⟩ := Sep.tmp3 h5 43 (.int .i64 0) (.int .i64 0) (.slice none 0 0) (.int .i64 t.kind) (.int .i64 t.n) (.slice s5.a s5.len s5.cap)
          refine ⟨r6, ?_⟩
          intro w7
          have h7 := h7
          have hB7 : Below B W w7 := (hB4.trans hb5).trans b7
          have hl := (h5.rowLen 0 rfl).1
          have hl : s5.len = t.args.length := hl
          refine cond_t rfl ⟨_, h7.cell0 0 rfl rfl, cond_e (fun _ => ⟨_, h7.cell 0 rfl 1 rfl, cond_e (fun _ => ⟨_, _, _, h7.cell 0 rfl 2 rfl, cond_e (fun _ => wk _ _ h7 hB7) fun hne => absurd ?_ hne⟩) fun hne => absurd htn hne⟩) fun hne => absurd htk hne⟩
          rw [hl, hta, List.length_replicate]; exact hke
      refine cond_n (fun hne => cond_n (fun h => absurd (pz (by rw [← hw]; exact hne)).1 h) fun _ => c1) fun _ => c1
    have c5 : trystlaw10_TermCounts.c5 RR kind n args (some a) b (least kind : Int) (mostOf kind : Int) w3 := by
      unfold trystlaw10_TermCounts.c5
      refine cond_d (fun h1 => c2 6 ?_) fun h1 => cond_d (fun h2 => c2 6 ?_) fun h2 => ?_
      · unfold errOf; rw [if_pos (by omega)]
      · unfold errOf; rw [if_pos (by omega)]
      have e1 : ∀ {x y : Int}, (if ¬ (1 ≤ t.kind ∧ t.kind ≤ 9) then x else y) = y := fun {x y} => if_neg (by omega)
      have hal : (t.args.length : Int) = args := by rw [hta, List.length_replicate]; exact hke
      have c3 : ¬ (t.n < 0 ∨ 0 < t.n ∧ ¬ numbered t.kind) → trystlaw10_TermCounts.c3 RR kind n args (some a) b (least kind : Int) (mostOf kind : Int) 0 w3 := by
        intro hnn
        have e2 : ∀ {x y : Int}, (if t.n < 0 ∨ 0 < t.n ∧ ¬ numbered t.kind then x else y) = y := fun {x y} => if_neg hnn
        unfold trystlaw10_TermCounts.c3
        refine cond_d (fun h3 => c2 2 ?_) fun h3 => cond_d (fun h4 => c2 2 ?_) fun h4 => c2 0 ?_
        · unfold errOf; rw [e1, e2, if_pos (by rw [htk]; omega)]
        · unfold errOf; rw [e1, e2, if_pos (by rw [htk]; omega)]
        · unfold errOf; rw [e1, e2, if_neg (by rw [htk]; omega), if_neg (fun h => h hin)]
      unfold trystlaw10_TermCounts.c4
      refine cond_d (fun h3 => c2 1 ?_) fun h3 => cond_d (fun h4 => cond_n (fun k1 => cond_n (fun k2 => cond_n (fun k4 => c2 1 ?_) fun k4 => c3 ?_) fun k2 => c3 ?_) fun k1 => c3 ?_) fun h4 => c3 ?_
      · unfold errOf; rw [e1, if_pos (.inl (by omega))]
      · unfold errOf; rw [e1, if_pos (.inr ⟨by omega, by unfold numbered; omega⟩)]
      · unfold numbered; omega
      · unfold numbered; omega
      · unfold numbered; omega
      · omega
    unfold trystlaw10_TermCounts.c9 trystlaw10_TermCounts.c8 trystlaw10_TermCounts.c7 trystlaw10_TermCounts.c6
    by_cases k1 : kind = 1
    · subst k1; exact c5
    by_cases k2 : kind = 2
    · subst k2; exact c5
    by_cases k4 : kind = 4
    · subst k4; exact c5
    by_cases k5 : kind = 5
    · subst k5; exact c5
    by_cases k6 : kind = 6
    · subst k6; exact c5
    by_cases k7 : kind = 7
    · subst k7; exact c5
    by_cases k8 : kind = 8
    · subst k8; exact c5
    have el : least kind = 0 := by simp [least, k1, k2, k4, k5, k6, k7, k8]
    have em : mostOf kind = 400 := by simp [mostOf, k1, k2, k4, k5]
    rw [el, em] at c5
    simp only [k1, k2, k4, k5, k6, k7, k8, beq_iff_eq, cond_false, beq_eq_false_iff_ne.2 k1, beq_eq_false_iff_ne.2 k2, beq_eq_false_iff_ne.2 k4, beq_eq_false_iff_ne.2 k5, beq_eq_false_iff_ne.2 k6, beq_eq_false_iff_ne.2 k7, beq_eq_false_iff_ne.2 k8]
    exact c5

end Go.Proofs.YtpihglmgkfecbaaDoor
