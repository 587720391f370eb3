/-
  Terms: what is put in the page's arena: contract.
-/
import Derived.Test.YtpihglmgkfecbaaDoorTmB
set_option linter.unusedVariables false
set_option linter.unusedSimpArgs false
namespace Go.Proofs.YtpihglmgkfecbaaDoor
open Go.Lf Go.RowKit

theorem newPage_spec {B : Nat} {w : World} {R : List Asn} (h : Sep B w R) : Sep B (w.alloc (.cells #[.slice none 0 0] 41)) (pgA (newA w) [] :: R) ∧ Below B w (w.alloc (.cells #[.slice none 0 0] 41)) := by
  obtain ⟨h2, hb2⟩ := (h.intsNil .i64).box [.slice none 0 0] 41
  refine ⟨Sep.fold ⟨none, 0, 0⟩ ⟨TOk.nil, fun x hx => by cases hx⟩ ?_, hb2⟩
  have h3 := (h2.rowNil 43 3).swap
  exact h3

theorem argsAt {B : Nat} {w : World} {l : List Asn} (k : Nat) {N : Nds} (hk : l[k]? = some (intsAll .i64 (argsL N))) (h : Sep B w l) {i : Nat} {x : Tm × Sl} (hi : N[i]? = some x) : Ints .i64 w x.2 x.1.args :=
  h.intsAt k hk (x := (x.2, x.1.args)) (List.mem_map.2 ⟨x, List.mem_of_getElem? hi, rfl⟩)

theorem rput_spec {B : Nat} {w : World} {p : Addr} {N : Nds} {R : List Asn} {t : Tm} {s : Sl} (h : Sep B w (pgA p N :: R))
    (hI : ∀ X w', Sep B w' (X :: R) → Below B w w' → Ints .i64 w' s t.args) :
    CallsV Tryd.prog n_trystref10_Arena_Put #[.pointer (some p), .int .i64 t.kind, .int .i64 t.n, .slice s.a s.len s.cap] w fun v w' => ∃ more, v = .tuple #[.int .i64 (put (terms N) t).2.1, .int .i64 (put (terms N) t).2.2] ∧
      terms (N ++ more) = (put (terms N) t).1 ∧ Sep B w' (pgA p (N ++ more) :: R) ∧ Below B w w' := by
  refine trystref10_Arena_Put.lift ?_
  have hI0 := hI _ _ h (Below.refl _ _)
  have hlen := hI0.len
  obtain ⟨sl, ⟨hok, hcaps⟩, hS⟩ := h.unfold
  have hsl : sl.len = N.length := (hS.rowLen 1 rfl).1
  have hfew := hok.few
  rw [terms_len] at hfew
  generalize hRR : (fun (v : Value) (w' : World) => ∃ more, v = .tuple #[.int .i64 (put (terms N) t).2.1, .int .i64 (put (terms N) t).2.2] ∧ terms (N ++ more) = (put (terms N) t).1 ∧ Sep B w' (pgA p (N ++ more) :: R) ∧ Below B w w') = RR
  have bad : ∀ (e : Int) w', errOf (terms N) t = e → e ≠ 0 → Same w w' → RR (.tuple #[.int .i64 0, .int .i64 e]) w' := by
    intro e w' he h0 hw
    rw [← hRR]
    refine ⟨[], by rw [put_bad he h0], by rw [put_bad he h0, List.append_nil], by rw [List.append_nil]; exact h.same hw, hw.below _⟩
  unfold trystref10_Arena_Put.main
  refine cond_d (fun h1 => bad 6 _ ?_ (by decide) (Same.refl _)) fun h1 => cond_d (fun h2 => bad 6 _ ?_ (by decide) (Same.refl _)) fun h2 => ?_
  · unfold errOf; rw [if_pos (by omega)]
  · unfold errOf; rw [if_pos (by omega)]
  have e1 : ∀ {a b : Int}, (if ¬ (1 ≤ t.kind ∧ t.kind ≤ 9) then a else b) = b := fun {a b} => if_neg (by omega)
  have c3 : ¬ (t.n < 0 ∨ 0 < t.n ∧ ¬ numbered t.kind) → trystref10_Arena_Put.c3 RR (some p) t.kind t.n s w := by
    intro hnn
    have e2 : ∀ {a b : Int}, (if t.n < 0 ∨ 0 < t.n ∧ ¬ numbered t.kind then a else b) = b := fun {a b} => if_neg hnn
    unfold trystref10_Arena_Put.c3
    refine (show CallsV _ _ _ _ _ from ?_)
    rw [hlen]
    refine (count_spec t.kind t.args.length w).mono ?_
    rintro _ _ ⟨rfl, rfl⟩
    refine ⟨_, rfl, cond_not (fun h3 => bad 2 _ ?_ (by decide) (Same.refl _)) fun h3 => ?_⟩
    · unfold errOf; rw [e1, e2, if_pos (by have := of_decide_eq_false h3; omega)]
    have hcnt := of_decide_eq_true h3
    have e3 : ∀ {a b : Int}, (if t.args.length < least t.kind ∨ mostOf t.kind < t.args.length then a else b) = b := fun {a b} => if_neg (by omega)
    have hm4 : mostOf t.kind ≤ 400 := by unfold mostOf; split <;> (try split) <;> omega
    rw [← hlen]
    refine (rhas_spec (T := terms N) (by rw [terms_len, ← hsl]; exact hS.cell0 0 rfl rfl) hI0).mono ?_
    rintro _ w8 ⟨rfl, hs8⟩
    refine ⟨_, rfl, cond_not (fun h5 => bad 8 _ ?_ (by decide) hs8) fun h5 => ?_⟩
    · unfold errOf; rw [e1, e2, e3, if_pos (of_decide_eq_false h5)]
    have hin := of_decide_eq_true h5
    have he0 : errOf (terms N) t = 0 := by unfold errOf; rw [e1, e2, e3, if_neg (fun h => h hin)]
    intro w9
    refine ⟨fun j hj => wr_new _ _ _ (by simpa using hj), ?_⟩
    intro w10
    have e10 : w10 = w8.alloc (.cells #[.int .i64 t.kind, .int .i64 t.n, .slice s.a s.len s.cap] 43) := box_set3
    clear_value w10
    obtain ⟨hS10, hb10⟩ := (hS.same hs8).box [.int .i64 t.kind, .int .i64 t.n, .slice s.a s.len s.cap] 43
    rw [show (w8.alloc (.cells [Value.int .i64 t.kind, .int .i64 t.n, .slice s.a s.len s.cap].toArray 43)) = w10 from e10.symm] at hS10 hb10
    have hB10 : Below B w w10 := (hs8.below B).trans hb10
    generalize newA w8 = tb at hS10 ⊢
    have hS10 : Sep B w10 ((boxA tb [.int .i64 t.kind, .int .i64 t.n, .slice s.a s.len s.cap] :: pgL 43 p N sl) ++ R) := hS10
    have ht64 : N.length ≤ 1048576 := hfew
    unfold trystref10_Arena_Put.l2
    refine ⟨fun st w' => ∃ k : Nat, st = k ∧ k ≤ N.length ∧ (∀ j u, j < k → (terms N)[j]? = some u → u ≠ t) ∧ Sep B w' ((boxA tb [.int .i64 t.kind, .int .i64 t.n, .slice s.a s.len s.cap] :: pgL 43 p N sl) ++ R) ∧ Below B w w', fun st _ => N.length - st.toNat,
      ⟨0, rfl, Nat.zero_le _, fun j u hj => by omega, hS10, hB10⟩, ?_⟩
    rintro _ w1 ⟨k, rfl, hk, hno, hS1, hB1⟩
    unfold trystref10_Arena_Put.b2
    refine ⟨p, rfl, _, _, _, hS1.cell0 1 rfl rfl, cond_d (fun hlt => ?_) fun hge => ?_⟩
    · have hk' : k < N.length := by omega
      obtain ⟨x, hx⟩ : ∃ x, N[k]? = some x := ⟨_, List.getElem?_eq_getElem hk'⟩
      have hS2 := hS1.drew
      obtain ⟨q, hq, hc⟩ := hS2.rowGet 2 (by omega) nodeC.w rfl hx
      have hc0 := hc 0 _ rfl
      rw [add_zero] at hc0
      have ho : ∀ {v u : World}, u = v → u = v := fun h => h
      refine ⟨fun y => y = w1.drew, rfl, p, rfl, _, _, _, fun y hy => by rw [hy]; exact hS2.cell0 1 rfl rfl, by omega, hlt, q, hq, _, fun y hy => by rw [hy, Int.toNat_natCast]; exact hc0, _, fun y hy => by rw [hy, Int.toNat_natCast]; exact hc 1 _ rfl,
        _, _, _, fun y hy => by rw [hy, Int.toNat_natCast]; exact hc 2 _ rfl, _, fun y hy => by rw [hy]; exact hS2.cell0 0 rfl rfl, _, fun y hy => by rw [hy]; exact hS2.cell 0 rfl 1 rfl, _, _, _, fun y hy => by rw [hy]; exact hS2.cell 0 rfl 2 rfl, ?_⟩
      have hB2 := hB1.trans ((Same.drew w1).below B)
      refine (termEq_spec (argsAt 3 rfl hS2 hx) (hI _ _ (Sep.any hS2) hB2)).mono ?_
      rintro _ w6 ⟨rfl, hb6⟩
      have hS6 := hS2.keep hb6
      have hB6 := hB2.next hb6 h.le
      refine ⟨_, rfl, cond_d (fun heq => ?_) fun hne => ?_⟩
      · rw [← hRR]
        have hput := put_is he0 (hok.place (i := k) (by rw [terms_at hx, heq]))
        refine ⟨[], by rw [hput], by rw [hput, List.append_nil], by rw [List.append_nil]; exact Sep.fold sl ⟨hok, hcaps⟩ hS6.drop, hB6⟩
      · rw [inc (by omega)]
        refine ⟨⟨rfl, rfl, rfl, k + 1, rfl, by omega, ?_, hS6, hB6⟩, by (try dsimp only); omega⟩
        intro j u hj hu
        by_cases hjk : j = k
        · subst hjk
          rw [terms_at hx] at hu
          obtain rfl := Option.some.inj hu
          exact hne
        · exact hno j u (by omega) hu
    · have hke : k = N.length := by omega
      have hp : place (terms N) t = none := by
        unfold place
        rw [List.findIdx?_eq_none_iff]
        intro u hu
        obtain ⟨j, hj, he⟩ := List.mem_iff_getElem.1 hu
        rw [terms_len] at hj
        exact decide_eq_false (hno j u (by omega) (by rw [← he, List.getElem?_eq_getElem]))
      unfold trystref10_Arena_Put.c1
      refine ⟨p, rfl, _, _, _, hS1.cell0 1 rfl rfl, cond_d (fun h6 => ?_) fun h6 => ?_⟩
      · rw [← hRR]
        have hput := put_full he0 hp (by rw [terms_len]; omega)
        refine ⟨[], by rw [hput], by rw [hput, List.append_nil], by rw [List.append_nil]; exact Sep.fold sl ⟨hok, hcaps⟩ hS1.drop, hB1⟩
      have hput := put_new he0 hp (by rw [terms_len]; omega)
      refine (twin_spec (hI _ _ (Sep.any hS1) hB1) (by omega)).mono ?_
      rintro _ w3 ⟨s', rfl, ho, hb3⟩
      have hS3 := Sep.intsMore 3 rfl hS1 ho (by omega) hb3
      have hS3 : Sep B w3 ([boxA tb [.int .i64 t.kind, .int .i64 t.n, .slice s.a s.len s.cap], boxA p [.slice sl.a sl.len sl.cap], rowA 43 3 sl N.length (flat nodeC N), intsAll .i64 ((s', t.args) :: argsL N)] ++ R) := hS3
      have hB3 := hB1.next hb3 h.le
      refine ⟨_, _, _, rfl, hS3.wr 0 rfl (j := 2) (by simp), ?_⟩
      obtain ⟨hS4, hb4⟩ := hS3.set 0 rfl (j := 2) (by simp) (.slice s'.a s'.len s'.cap)
      intro w4
      have hS4 : Sep B w4 ([boxA tb [.int .i64 t.kind, .int .i64 t.n, .slice s'.a s'.len s'.cap], boxA p [.slice sl.a sl.len sl.cap], rowA 43 3 sl N.length (flat nodeC N), intsAll .i64 ((s', t.args) :: argsL N)] ++ R) := hS4
      have hB4 : Below B w w4 := hB3.trans hb4
      clear_value w4
      have hS5 := hS4.drew
      refine ⟨fun y => y.cell? p = some (.slice sl.a sl.len sl.cap) ∧ y.cell? tb = some (.int .i64 t.kind) ∧ y.cell? (tb.add 1) = some (.int .i64 t.n) ∧ y.cell? (tb.add 2) = some (.slice s'.a s'.len s'.cap), ⟨hS5.cell0 1 rfl rfl, hS5.cell0 0 rfl rfl, hS5.cell 0 rfl 1 rfl, hS5.cell 0 rfl 2 rfl⟩,
        p, rfl, _, _, _, fun y hy => hy.1, _, fun y hy => hy.2.1, _, fun y hy => hy.2.2.1, _, _, _, fun y hy => hy.2.2.2, ?_⟩
      intro w5
      have hb5 : Below w4.drew.heap.size w4.drew w5 := below_alloc _ _
      have hS6 := hS5.keep hb5
      have hB5 : Below B w w5 := (hB4.trans ((Same.drew w4).below B)).next hb5 h.le
      refine ⟨⟨hS6.cell0 1 rfl rfl, hS6.cell0 0 rfl rfl, hS6.cell 0 rfl 1 rfl, hS6.cell 0 rfl 2 rfl⟩, ?_⟩
      obtain ⟨i, hi, hz, hsz, hby⟩ := t43
      obtain ⟨s6, w6, hr, hl6, hS7, hb6⟩ := Sep.append (ty := 39) (c := 1) (m := 1) Tryd.underlying39 hi hz hsz hby rfl (by omega) 2 rfl hS6 (a := newA w4.drew) (news := nodeC (t, s')) (nodeC.w _)
        (fun j u hu => by rw [← hu]; exact (cell_new w4.drew #[.int .i64 t.kind, .int .i64 t.n, .slice s'.a s'.len s'.cap] 43 j).trans (by simp [nodeC]))
        (by intro u hu; simp only [nodeC, List.mem_cons, List.not_mem_nil, or_false] at hu; rcases hu with rfl | rfl | rfl <;> rfl) (by unfold maxLen; omega) (by omega) (by omega)
      refine ⟨_, _, _, _, hr, p, rfl, ?_⟩
      have hS7 : Sep B w6 ([boxA tb [.int .i64 t.kind, .int .i64 t.n, .slice s'.a s'.len s'.cap], boxA p [.slice sl.a sl.len sl.cap], rowA 43 3 s6 (N.length + 1) (flat nodeC N ++ nodeC (t, s')), intsAll .i64 ((s', t.args) :: argsL N)] ++ R) := hS7
      refine ⟨hS7.wr0 1 rfl (by simp), ?_⟩
      obtain ⟨hS8, hb8⟩ := hS7.set0 1 rfl (by simp) (.slice s6.a s6.len s6.cap)
      have hS8 : Sep B (w6.setCell p (.slice s6.a s6.len s6.cap)) ([boxA tb [.int .i64 t.kind, .int .i64 t.n, .slice s'.a s'.len s'.cap], boxA p [.slice s6.a s6.len s6.cap], rowA 43 3 s6 (N.length + 1) (flat nodeC N ++ nodeC (t, s')), intsAll .i64 ((s', t.args) :: argsL N)] ++ R) := hS8
      refine ⟨p, rfl, _, _, _, hS8.cell0 1 rfl rfl, ?_⟩
      rw [show ((s6.len : Nat) : Int) - 1 = (N.length : Int) by omega, w64 (by omega), ← hRR]
      refine ⟨[(t, s')], ?_, ?_, ?_, (hB5.trans hb6).trans hb8⟩
      · rw [hput, terms_len]
      · rw [hput, terms_app]; rfl
      · have hS9 := (hS8.intsLess 3 rfl (L' := argsL (N ++ [(t, s')])) (by
          intro x hx
          unfold argsL at hx
          rw [List.map_append, List.mem_append] at hx
          rcases hx with hx | hx
          · exact List.mem_cons_of_mem _ hx
          · simp at hx; subst hx; simp)).drop
        have e9 : TOk (terms (N ++ [(t, s')])) := by
          have := hok.put t
          rw [hput] at this
          rw [terms_app]; exact this
        refine Sep.fold s6 ⟨e9, ?_⟩ ?_
        · intro x hx
          rw [List.mem_append] at hx
          rcases hx with hx | hx
          · exact hcaps x hx
          · simp at hx; subst hx; exact ho.cap
        · unfold pgL
          rw [flat_more, List.length_append]
          exact hS9
  unfold trystref10_Arena_Put.c4
  have e4 : ∀ {c : Bool} {A C : Prop}, c = true → A → cond c A C := fun h a => by rw [h]; exact a
  refine cond_d (fun h3 => bad 1 _ ?_ (by decide) (Same.refl _)) fun h3 => cond_d (fun h4 => cond_n (fun k1 => cond_n (fun k2 => cond_n (fun k4 => bad 1 _ ?_ (by decide) (Same.refl _)) fun k4 => c3 ?_) fun k2 => c3 ?_) fun k1 => c3 ?_) fun h4 => c3 ?_
  · unfold errOf; rw [e1, if_pos (.inl (by omega))]
  · unfold errOf; rw [e1, if_pos (.inr ⟨by omega, by unfold numbered; omega⟩)]
  · unfold numbered; omega
  · unfold numbered; omega
  · unfold numbered; omega
  · omega

end Go.Proofs.YtpihglmgkfecbaaDoor
