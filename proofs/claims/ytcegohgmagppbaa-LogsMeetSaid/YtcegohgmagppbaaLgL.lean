/-
  Logs: the page's Have, Say, Put, Want; From of both; sameness; spoils.
-/
import Derived.Test.YtcegohgmagppbaaLgJ
set_option linter.unusedVariables false
set_option linter.unusedVariables false
set_option linter.unusedSimpArgs false
namespace Go.Proofs.Ytcegohgmagppbaa
open Go.Lf Go.RowKit

theorem rhave_spec {w : World} {s : Sl} {gs : List Log} (h : Logs w s gs) :
    CallsV Try.prog n_trystref22_Have #[.slice s.a s.len s.cap] w fun v w' => ∃ s' : Sl, v = .slice s'.a s'.len s'.cap ∧ OwnI w.heap.size 3 .i64 w' s' (haveL gs) ∧ Below w.heap.size w w' := by
  refine trystref22_Have.lift ?_
  unfold trystref22_Have.main
  refine ⟨by omega, by omega, by omega, by omega, ?_⟩
  intro w0
  have hb0 : Below w.heap.size w w0 := below_alloc _ _
  have ho0 : OwnI w.heap.size 3 .i64 w0 ⟨some (newA w), 8, 8⟩ (List.replicate 8 0) := make_ints (w := w) (n := 8) (e := 3) (k := .i64) (by unfold maxLen; omega)
  clear_value w0
  have h0 := Els.keep LogC.stab h hb0
  refine (rlogs_spec h0).mono ?_
  rintro _ w1 ⟨rfl, hb1⟩
  have ho1 : OwnI w.heap.size 3 .i64 w1 ⟨some (newA w), 8, 8⟩ (List.replicate 8 0) := (Chg.of_below (F := fun _ => False) hb1).own ho0 fun _ _ h => h
  have hb01 := hb0.next hb1 (Nat.le_refl _)
  refine ⟨_, rfl, cond_c (fun hok => ?_) fun hno => ?_⟩
  · have hH : haveL gs = haves gs := by unfold haveL; rw [if_pos hok]
    rw [hH]
    have hl := h.len
    have hfit := ok_fit hok
    have hgl := hfit.1
    unfold trystref22_Have.l1
    refine ⟨fun t w' => ∃ k : Nat, t = k ∧ k ≤ gs.length ∧ OwnI w.heap.size 3 .i64 w' ⟨some (newA w), 8, 8⟩ (haves (gs.take k)) ∧ Below w.heap.size w w', fun t _ => gs.length - t.toNat, ⟨0, rfl, Nat.zero_le _, by rw [List.take_zero, haves_nil]; exact ho1, hb01⟩, ?_⟩
    rintro _ w2 ⟨k, rfl, hk, ho2, hb2⟩
    unfold trystref22_Have.b1
    refine cond_d (fun hlt => ?_) fun hge => ?_
    · obtain ⟨p, g, m, hp, hg, c0, c1, c2, hm⟩ := Logs.get h (i := (k : Int)) (by omega) hlt
      rw [Int.toNat_natCast] at hg c0 c1 c2
      obtain ⟨_, g0, g8, gf0, gf1, gl, gb⟩ := logsOk_mem hok g (List.mem_of_getElem? hg)
      have hkl := (List.getElem?_eq_some_iff.1 hg).1
      have hb2d := hb2.drew
      have hml := hm.len
      have ho3 : OwnI w.heap.size 3 .i64 w2.drew ⟨some (newA w), 8, 8⟩ (haves (gs.take k)) := (Chg.of_below (F := fun _ => False) below_drew).own ho2 fun _ _ h => h
      have hsp : gs = gs.take k ++ g :: gs.drop (k + 1) := by rw [← drop_eq hg, List.take_append_drop]
      have hpair : ∀ x ∈ gs.take k, x.c < g.c := ok_pair (by rw [← hsp]; exact hok)
      obtain ⟨hw, ho4, _⟩ := ho3.set rfl (j := g.c.toNat) (by rw [haves_length]; omega) (IntKind.i64.wrap (g.f + m.len))
      refine ⟨fun x => x.cell? (p.add (k * 3)) = some (.int .i64 g.c) ∧ x.cell? ((p.add (k * 3)).add 1) = some (.int .i64 g.f) ∧ x.cell? ((p.add (k * 3)).add 2) = some (.slice m.a m.len m.cap), ⟨hb2d.here c0, hb2d.here c1, hb2d.here c2⟩, ?_⟩
      simp only [Int.toNat_natCast]
      refine ⟨by omega, hlt, p, hp, _, fun x hx => hx.1, by omega, hlt, p, hp, _, fun x hx => hx.2.1, by omega, hlt, p, hp, _, _, _, fun x hx => hx.2.2, g0, by show g.c < ((8 : Nat) : Int); omega, newA w, rfl, hw, ?_⟩
      rw [inc (by omega)]
      refine ⟨⟨trivial, trivial, k + 1, rfl, by omega, ?_, ?_⟩, by (try dsimp only); omega⟩
      · have e : gs.take (k + 1) = gs.take k ++ [g] := by rw [List.take_add_one, hg]; rfl
        rw [e, haves_last hpair g0 g8]
        have : tot g = IntKind.i64.wrap (g.f + (m.len : Int)) := by unfold tot; rw [w64 (by omega), hml]
        rw [this]; exact ho4
      · exact hb2d.setCell (by rw [add_block]; exact Nat.le_refl _) _
    · rw [List.take_of_length_le (by omega)] at ho2
      exact ⟨⟨some (newA w), 8, 8⟩, rfl, ho2, hb2⟩
  · refine ⟨⟨some (newA w), 8, 8⟩, rfl, ?_, hb01⟩
    unfold haveL
    rw [if_neg (by rw [hno]; simp)]
    exact ho1

theorem may_spec (c b : Int) (w : World) : CallsV Try.prog n_trystref22_may #[.int .i64 c, .int .i64 b] w fun v w' => v = .bool (okClient c && okBody b) ∧ w = w' := by
  refine trystref22_may.lift ?_
  unfold trystref22_may.main
  refine cond_d (fun h1 => cond_d (fun h2 => cond_d (fun h3 => ?_) fun h3 => ?_) fun h2 => ?_) fun h1 => ?_
  · refine ⟨?_, rfl⟩
    simp [okClient, okBody, h1, h2, h3]
  all_goals (refine ⟨?_, rfl⟩; simp [okClient, okBody]; omega)

theorem have_at {gs : List Log} (hok : logsOk (-1) gs = true) {c : Int} (hc : okClient c = true) : (haveL gs)[c.toNat]? = some (tot (lkp c gs)) := by
  unfold haveL
  simp [okClient] at hc
  rw [if_pos hok, haves_get gs (by omega)]
  congr 3; omega

theorem haveL_length (gs : List Log) : (haveL gs).length = 8 := by
  unfold haveL; split
  · exact haves_length gs
  · simp

theorem rsay_spec {w : World} {s : Sl} {gs : List Log} (h : Logs w s gs) (c b : Int) :
    CallsV Try.prog n_trystref22_Say #[.slice s.a s.len s.cap, .int .i64 c, .int .i64 b] w fun v w' => ∃ s' : Sl, v = .tuple #[.slice s'.a s'.len s'.cap, .int .i64 (sayR c b gs).2.1, .int .i64 (sayR c b gs).2.2] ∧ New w.heap.size w' s' (sayR c b gs).1 ∧ Below w.heap.size w w' := by
  refine trystref22_Say.lift ?_
  unfold trystref22_Say.main
  have bad : ∀ w', Below w.heap.size w w' → ¬ (logsOk (-1) gs = true ∧ okClient c = true ∧ okBody b = true) → ∃ s' : Sl, Value.tuple #[.slice none 0 0, .int .i64 0, .int .i64 1] = .tuple #[.slice s'.a s'.len s'.cap, .int .i64 (sayR c b gs).2.1, .int .i64 (sayR c b gs).2.2] ∧ New w.heap.size w' s' (sayR c b gs).1 ∧ Below w.heap.size w w' := by
    intro w' hb hn
    unfold sayR
    rw [if_neg hn]
    exact ⟨⟨none, 0, 0⟩, rfl, New.nil hb.size, hb⟩
  refine (rlogs_spec h).mono ?_
  rintro _ w1 ⟨rfl, hb1⟩
  refine ⟨_, rfl, cond_not (fun hne => bad _ hb1 fun hh => by rw [hh.1] at hne; cases hne) fun hok => ?_⟩
  refine (may_spec c b w1).mono ?_
  rintro _ _ ⟨rfl, rfl⟩
  refine ⟨_, rfl, cond_not (fun hc => bad _ hb1 fun hh => by rw [hh.2.1, hh.2.2] at hc; cases hc) fun hcb => ?_⟩
  rw [Bool.and_eq_true] at hcb
  have hcond : logsOk (-1) gs = true ∧ okClient c = true ∧ okBody b = true := ⟨hok, hcb⟩
  have h1 := Els.keep LogC.stab h hb1
  unfold trystref22_Say.c1
  refine (with_spec h1 hok c b).mono ?_
  rintro _ w2 ⟨s2, rfl, hN, hb2⟩
  have hb12 := hb1.next hb2 (Nat.le_refl _)
  refine ⟨_, _, _, _, rfl, ?_⟩
  by_cases h32 : 32 ≤ (lkp c gs).b.length
  · have hW : withR c b gs = ([], 20) := by unfold withR; rw [if_pos h32]
    have hR : sayR c b gs = ([], 0, 20) := by unfold sayR; rw [if_pos hcond, if_pos h32]
    rw [hW, hR]
    exact cond_t rfl ⟨⟨none, 0, 0⟩, rfl, New.nil hb12.size, hb12⟩
  · have hW : withR c b gs = (addR c b gs, 0) := by unfold withR; rw [if_neg h32]
    have hR : sayR c b gs = (addR c b gs, tot (lkp c gs) + 1, 0) := by unfold sayR; rw [if_pos hcond, if_neg h32]
    rw [hW] at hN ⊢
    rw [hR]
    dsimp only at hN ⊢
    simp only [okClient, Bool.and_eq_true, decide_eq_true_eq] at hcb
    have hok2 := addR_ok hcond.2.1 hcond.2.2 hok (by omega) (by omega)
    have hL2 := (hN.keep below_drew).logs (ok_fit hok2)
    refine cond_f' rfl ?_
    refine ⟨fun _ => True, trivial, (rhave_spec hL2).mono ?_⟩
    rintro _ w3 ⟨s3, rfl, ho, hb3⟩
    refine ⟨_, _, _, rfl, ?_⟩
    have hI := ho.ints (by rw [haveL_length]; omega)
    have hIl := hI.len
    rw [haveL_length] at hIl
    obtain ⟨q, hq, hc3⟩ := hI.get (i := c) (by omega) (by omega)
    rw [have_at hok2 hcond.2.1] at hc3
    have e : tot (lkp c (addR c b gs)) = tot (lkp c gs) + 1 := by
      rw [lkp_add c hok (by omega), if_pos rfl]
      unfold tot
      simp only [List.length_append, List.length_cons, List.length_nil]; push_cast; omega
    rw [Option.getD_some, e] at hc3
    have hN3 := (hN.keep below_drew).keep hb3
    refine ⟨fun x => x.cell? (q.add c.toNat) = some (.int .i64 (tot (lkp c gs) + 1)), fun _ _ => trivial, hc3, by omega, by omega, q, hq, _, fun x hx => hx, s2, rfl, hN3.lower hb1.size, hb12.drew.next hb3 (Nat.le_refl _)⟩

theorem rput_spec {w : World} {s : Sl} {gs : List Log} (h : Logs w s gs) (c n b : Int) (hn63 : -9223372036854775808 ≤ n ∧ n ≤ 9223372036854775807) :
    CallsV Try.prog n_trystref22_Put #[.slice s.a s.len s.cap, .agg #[.int .i64 c, .int .i64 n, .int .i64 b]] w fun v w' => ∃ s' : Sl, v = .tuple #[.slice s'.a s'.len s'.cap, .bool (putR c n b gs).2.1, .int .i64 (putR c n b gs).2.2] ∧ New w.heap.size w' s' (putR c n b gs).1 ∧ Below w.heap.size w w' := by
  refine trystref22_Put.lift ?_
  unfold trystref22_Put.main
  have bad : ∀ w', Below w.heap.size w w' → ¬ (logsOk (-1) gs = true ∧ okClient c = true ∧ okBody b = true ∧ 1 ≤ n) → ∃ s' : Sl, Value.tuple #[.slice none 0 0, .bool false, .int .i64 1] = .tuple #[.slice s'.a s'.len s'.cap, .bool (putR c n b gs).2.1, .int .i64 (putR c n b gs).2.2] ∧ New w.heap.size w' s' (putR c n b gs).1 ∧ Below w.heap.size w w' := by
    intro w' hb hn
    unfold putR
    rw [if_neg hn]
    exact ⟨⟨none, 0, 0⟩, rfl, New.nil hb.size, hb⟩
  intro w0
  have hb0 : Below w.heap.size w w0 := below_alloc _ _
  have a0 : w0.cell? (newA w) = some (.int .i64 c) := cell_new0 _ _ _
  have a1 : w0.cell? ((newA w).add 1) = some (.int .i64 n) := cell_new _ _ _ _
  have a2 : w0.cell? ((newA w).add 2) = some (.int .i64 b) := cell_new _ _ _ _
  clear_value w0
  have h0 := Els.keep LogC.stab h hb0
  refine (rlogs_spec h0).mono ?_
  rintro _ w1 ⟨rfl, hb1'⟩
  have hb1 : Below w.heap.size w w1 := hb0.next hb1' (Nat.le_refl _)
  refine ⟨_, rfl, cond_not (fun hne => bad _ hb1 fun hh => by rw [hh.1] at hne; cases hne) fun hok => ?_⟩
  refine ⟨c, hb1'.here a0, b, hb1'.here a2, (may_spec c b w1).mono ?_⟩
  rintro _ _ ⟨rfl, rfl⟩
  refine ⟨_, rfl, cond_not (fun hc => bad _ hb1 fun hh => by rw [hh.2.1, hh.2.2.1] at hc; cases hc) fun hcb => ?_⟩
  rw [Bool.and_eq_true] at hcb
  refine ⟨n, hb1'.here a1, cond_d (fun hlt => bad _ hb1 fun hh => by omega) fun hn1 => ?_⟩
  have hcond : logsOk (-1) gs = true ∧ okClient c = true ∧ okBody b = true ∧ 1 ≤ n := ⟨hok, hcb.1, hcb.2, by omega⟩
  have hok8 := hcb.1
  simp only [okClient, Bool.and_eq_true, decide_eq_true_eq] at hok8
  have h1 := Els.keep LogC.stab h0 hb1'
  have hfit := ok_fit hok
  have hrng := lkp_rng hok c
  have htot : 0 ≤ tot (lkp c gs) ∧ tot (lkp c gs) ≤ 1073741856 := by unfold tot; omega
  unfold trystref22_Put.c1
  refine ⟨fun x => x.cell? (newA w) = some (.int .i64 c), hb1'.drew.here a0, c, fun x hx => hx, (rhave_spec (Els.keep LogC.stab h1 below_drew)).mono ?_⟩
  rintro _ w2 ⟨s2, rfl, ho, hb2⟩
  have hb02 : Below w0.heap.size w0 w2 := hb1'.drew.next hb2 (Nat.le_refl _)
  have hb12 : Below w.heap.size w w2 := hb1.drew.next hb2 (Nat.le_refl _)
  have hI := ho.ints (by rw [haveL_length]; omega)
  have hIl := hI.len
  rw [haveL_length] at hIl
  obtain ⟨q, hq, hc3⟩ := hI.get (i := c) (by omega) (by omega)
  rw [have_at hok hcb.1, Option.getD_some] at hc3
  refine ⟨_, _, _, rfl, fun x => x.cell? (newA w) = some (.int .i64 c) ∧ x.cell? (q.add c.toNat) = some (.int .i64 (tot (lkp c gs))), fun x hx => hx.1, ⟨hb02.here a0, hc3⟩, by omega, by omega, q, hq, _, fun x hx => hx.2, n, hb02.here a1, cond_d (fun hle => ?_) fun hgt => ?_⟩
  · have hR : putR c n b gs = (gs, false, 0) := by unfold putR; rw [if_pos hcond, if_pos hle]
    have h3 := Els.keep LogC.stab h hb12
    refine (twinLogs_spec h3 hfit).mono ?_
    rintro _ w4 ⟨s4, rfl, hN, hb4⟩
    rw [hR]
    exact ⟨_, _, _, rfl, s4, rfl, hN.lower hb12.size, hb12.next hb4 (Nat.le_refl _)⟩
  · refine ⟨n, hb02.here a1, cond_d (fun hgt2 => ?_) fun hle2 => ?_⟩
    · have hR : putR c n b gs = ([], false, 14) := by
        unfold putR
        rw [w64 (by omega)] at hgt2
        rw [if_pos hcond, if_neg hgt, if_pos (by omega)]
      rw [hR]
      exact ⟨⟨none, 0, 0⟩, rfl, New.nil hb12.size, hb12⟩
    · rw [w64 (by omega)] at hle2
      have h3 := Els.keep LogC.stab h hb12
      refine ⟨c, hb02.here a0, b, hb02.here a2, (with_spec h3 hok c b).mono ?_⟩
      rintro _ w4 ⟨s4, rfl, hN, hb4⟩
      refine ⟨_, _, _, _, rfl, s4, ?_, ?_, hb12.next hb4 (Nat.le_refl _)⟩
      · by_cases h32 : 32 ≤ (lkp c gs).b.length
        · have hW : withR c b gs = ([], 20) := by unfold withR; rw [if_pos h32]
          have hR : putR c n b gs = ([], false, 20) := by unfold putR; rw [if_pos hcond, if_neg hgt, if_neg (by omega), if_pos h32]
          rw [hW, hR]; rfl
        · have hW : withR c b gs = (addR c b gs, 0) := by unfold withR; rw [if_neg h32]
          have hR : putR c n b gs = (addR c b gs, true, 0) := by unfold putR; rw [if_pos hcond, if_neg hgt, if_neg (by omega), if_neg h32]
          rw [hW, hR]; rfl
      · have e : (putR c n b gs).1 = (withR c b gs).1 := by
          unfold putR withR
          rw [if_pos hcond, if_neg hgt, if_neg (by omega)]
          split <;> rfl
        rw [e]
        exact hN.lower hb12.size

end Go.Proofs.Ytcegohgmagppbaa

/-
  Logs: the page's Want; From of both; sameness; spoils.
-/
set_option linter.unusedVariables false
set_option linter.unusedSimpArgs false
namespace Go.Proofs.Ytcegohgmagppbaa
open Go.Lf Go.RowKit

theorem klogs_spec {w : World} {s t : Sl} {gs hs : List Log} (h : Logs w s gs) (h' : Logs w t hs) :
    CallsV Try.prog n_trystkeep_Logs #[.slice s.a s.len s.cap, .slice t.a t.len t.cap] w fun v w' => (∃ b : Bool, v = .bool b ∧ (b = true ↔ gs = hs)) ∧ Below w.heap.size w w' := by
  have hl := h.len
  have hl' := h'.len
  have hsm := h.small
  refine trystkeep_Logs.lift ?_
  unfold trystkeep_Logs.main
  refine cond_n (fun hne => ⟨⟨false, rfl, by simp; intro he; subst he; omega⟩, Below.refl _ _⟩) fun he => ?_
  unfold trystkeep_Logs.l1
  refine ⟨fun st w' => Below w.heap.size w w' ∧ ∃ k : Nat, st = k ∧ k ≤ gs.length ∧ gs.take k = hs.take k, fun st _ => gs.length - st.toNat, ⟨Below.refl _ _, 0, rfl, Nat.zero_le _, rfl⟩, ?_⟩
  rintro _ w1 ⟨hb, k, rfl, hk, htk⟩
  unfold trystkeep_Logs.b1
  refine cond_d (fun hlt => ?_) fun hge => ?_
  · obtain ⟨p, g, m, hp, hg, c0, c1, c2, hm⟩ := Logs.get h (i := (k : Int)) (by omega) hlt
    obtain ⟨p', g', m', hp', hg', d0, d1, d2, hm'⟩ := Logs.get h' (i := (k : Int)) (by omega) (by omega)
    rw [Int.toNat_natCast] at hg c0 c1 c2 hg' d0 d1 d2
    have hbd := hb.drew
    have hk1 := (List.getElem?_eq_some_iff.1 hg).1
    have bad : ∀ w2, Below w.heap.size w w2 → g ≠ g' → (∃ b : Bool, Value.bool false = .bool b ∧ (b = true ↔ gs = hs)) ∧ Below w.heap.size w w2 := by
      intro w2 hb2 hn
      refine ⟨⟨false, rfl, by simp; intro he; subst he; rw [hg] at hg'; exact hn (Option.some.inj hg')⟩, hb2⟩
    refine ⟨fun x => x.cell? (p.add (k * 3)) = some (.int .i64 g.c) ∧ x.cell? ((p.add (k * 3)).add 1) = some (.int .i64 g.f) ∧ x.cell? ((p.add (k * 3)).add 2) = some (.slice m.a m.len m.cap) ∧ x.cell? (p'.add (k * 3)) = some (.int .i64 g'.c) ∧ x.cell? ((p'.add (k * 3)).add 1) = some (.int .i64 g'.f) ∧ x.cell? ((p'.add (k * 3)).add 2) = some (.slice m'.a m'.len m'.cap),
      ⟨hbd.here c0, hbd.here c1, hbd.here c2, hbd.here d0, hbd.here d1, hbd.here d2⟩, ?_⟩
    simp only [Int.toNat_natCast]
    refine ⟨by omega, hlt, p, hp, _, fun x hx => hx.1, by omega, by omega, p', hp', _, fun x hx => hx.2.2.2.1, cond_n (fun hn => bad _ hbd fun e => hn (by rw [e])) fun e0 => ?_⟩
    refine ⟨by omega, hlt, p, hp, _, fun x hx => hx.2.1, by omega, by omega, p', hp', _, fun x hx => hx.2.2.2.2.1, cond_n (fun hn => bad _ hbd fun e => hn (by rw [e])) fun e1 => ?_⟩
    refine ⟨by omega, hlt, p, hp, _, _, _, fun x hx => hx.2.2.1, by omega, by omega, p', hp', _, _, _, fun x hx => hx.2.2.2.2.2, ?_⟩
    refine (ints_spec (hm.keep hbd) (hm'.keep hbd)).mono ?_
    rintro _ w2 ⟨rfl, hs2⟩
    have hb2 : Below w.heap.size w w2 := hbd.trans (hs2.below _)
    refine ⟨_, rfl, cond_not (fun hn => bad _ hb2 fun e => by rw [e] at hn; simp at hn) fun e2 => ?_⟩
    rw [decide_eq_true_eq] at e2
    rw [inc (by omega)]
    refine ⟨⟨trivial, trivial, hb2, k + 1, rfl, by omega, ?_⟩, by (try dsimp only); omega⟩
    have : g = g' := by
      cases g; cases g'; simp only at e0 e1 e2; subst e0; subst e1; subst e2; rfl
    rw [List.take_add_one, List.take_add_one, htk, hg, hg', this]
  · refine ⟨⟨true, rfl, ?_⟩, hb⟩
    rw [List.take_of_length_le (by omega), List.take_of_length_le (by omega)] at htk
    simp [htk]

theorem row_bods {L : List LS} {k : Nat} {x : LS} (h : L[k]? = some x) : (L.drop k).map bodA = bodA x :: (L.drop (k + 1)).map bodA := by rw [drop_eq h]; rfl

theorem spoilLogs_spec {B : Nat} {w : World} {s : Sl} {gs : List Log} (h : New B w s gs) (hf : Fit gs) :
    CallsV Try.prog n_trystkeep_SpoilLogs #[.slice s.a s.len s.cap] w fun v w' => v = .tuple #[] ∧ Below B w w' := by
  obtain ⟨L, rfl, h⟩ := h
  have hLl : L.length ≤ 1000 := by have := hf.1; rwa [List.length_map] at this
  have hl : s.len = L.length := (h.rowLen 0 rfl).1
  refine trystkeep_SpoilLogs.lift ?_
  unfold trystkeep_SpoilLogs.main trystkeep_SpoilLogs.l1
  refine ⟨fun t w' => ∃ k : Nat, t = k ∧ k ≤ L.length ∧ (∃ vs : List Value, vs.length = L.length * 3 ∧ Sep B w' (rowA 45 3 s L.length vs :: (L.drop k).map bodA) ∧ ∀ (j : Nat) (x : LS), k ≤ j → L[j]? = some x → vs[j * 3 + 2]? = some (.slice x.2.a x.2.len x.2.cap)) ∧ Below B w w', fun t _ => L.length - t.toNat,
    ⟨0, rfl, Nat.zero_le _, ⟨flat lgV L, flat_length lgV_length L, h, fun j x _ hx => by rw [flat_get lgV_length hx (by omega)]; rfl⟩, Below.refl _ _⟩, ?_⟩
  rintro _ w1 ⟨k, rfl, hk, ⟨vs, hvl, h1, hv⟩, hb⟩
  unfold trystkeep_SpoilLogs.b1
  refine cond_d (fun hlt => ?_) fun hge => ⟨rfl, hb⟩
  have hk1 : k < L.length := by omega
  obtain ⟨x, hx⟩ : ∃ x, L[k]? = some x := ⟨_, List.getElem?_eq_getElem hk1⟩
  have hxl := hf.2 _ (List.mem_map_of_mem (f := (·.1)) (List.mem_of_getElem? hx))
  obtain ⟨q, hq, hc⟩ := h1.rowCell 0 rfl (j := k * 3 + 2) (by omega)
  rw [row_bods hx] at h1
  refine ⟨by omega, hlt, q, hq, _, _, _, by rw [Int.toNat_natCast, add_add]; exact hc _ _ (hv k x (Nat.le_refl _) hx), ?_⟩
  refine (spoil_spec (show Sep B w1 (rowA 3 1 x.2 x.1.b.length (x.1.b.map (Value.int .i64)) :: rowA 45 3 s L.length vs :: (L.drop (k + 1)).map bodA) from h1.swap) (by omega)).mono ?_
  rintro _ w2 ⟨rfl, h2, hb2⟩
  have hwr := h2.rowWr 0 rfl hq (j := k * 3 + 1) (by omega)
  obtain ⟨h3, hb3⟩ := h2.rowSet 0 rfl hq (j := k * 3 + 1) (by omega) (.int .i64 (-55))
  refine ⟨rfl, by omega, hlt, q, hq, by rw [Int.toNat_natCast, add_add]; exact hwr, ?_⟩
  rw [Int.toNat_natCast, add_add, inc (by omega)]
  refine ⟨⟨rfl, k + 1, rfl, by omega, ⟨_, by rw [List.length_set]; exact hvl, h3, fun j y hj hy => ?_⟩, (hb.trans hb2).trans hb3⟩, by (try dsimp only); omega⟩
  rw [List.getElem?_set_ne (by omega)]
  exact hv j y (by omega) hy

theorem New.more {B : Nat} {w : World} {s : Sl} {gs : List Log} (h : New B w s gs) (hl : gs.length ≤ 1000) (c f : Int) :
    ∃ s' : Sl, ∃ w1, (builtin .append #[24, 24] 24 #[] #[.slice s.a s.len s.cap, .slice (some (newA w)) 1 1]).run Try.prog (w.alloc (.cells #[.int .i64 c, .int .i64 f, .slice none 0 0] 45)) = .ok (.value (.slice s'.a s'.len s'.cap)) w1 ∧ New B w1 s' (gs ++ [⟨c, f, []⟩]) ∧ Below B w w1 := by
  obtain ⟨L, rfl, h⟩ := h
  rw [List.length_map] at hl
  have hba := below_alloc w (.cells #[.int .i64 c, .int .i64 f, .slice none 0 0] 45)
  obtain ⟨s', w1, hr, h1, hb1⟩ := one_spec (y := ((⟨c, f, []⟩, ⟨none, 0, 0⟩) : LS)) (a := newA w) (h.keep hba) (fun j u hu => by
    refine (cell_new _ _ _ _).trans ?_
    simpa [lgV] using hu) hl
  refine ⟨s', w1, hr, ⟨L ++ [(⟨c, f, []⟩, ⟨none, 0, 0⟩)], by rw [List.map_append]; rfl, ?_⟩, (hba.mono h.le).trans hb1⟩
  refine Sep.perm ((h1.rowNil 3 1).swap) (.cons _ ?_)
  rw [List.map_append]
  exact (List.perm_append_singleton _ _).symm

theorem from_spec {w : World} {s : Sl} {hs : List Int} (h : Ints .i64 w s hs) :
    CallsV Try.prog n_logs_From #[.slice s.a s.len s.cap] w fun v w' => ∃ s' : Sl, v = .tuple #[.slice s'.a s'.len s'.cap, .int .i64 (fromR hs).2] ∧ New w.heap.size w' s' (fromR hs).1 ∧ Below w.heap.size w w' := by
  have hl := h.len
  have bad : ∀ w', Below w.heap.size w w' → ¬ (hs.length = 8 ∧ hs.all okFrom = true) → ∃ s' : Sl, Value.tuple #[.slice none 0 0, .int .i64 1] = .tuple #[.slice s'.a s'.len s'.cap, .int .i64 (fromR hs).2] ∧ New w.heap.size w' s' (fromR hs).1 ∧ Below w.heap.size w w' := by
    intro w' hb hn
    unfold fromR
    rw [if_neg hn]
    exact ⟨⟨none, 0, 0⟩, rfl, New.nil hb.size, hb⟩
  refine logs_From.lift ?_
  unfold logs_From.main
  refine cond_n (fun hne => bad _ (Below.refl _ _) fun hh => by omega) fun he => ?_
  have h8 : hs.length = 8 := by omega
  unfold logs_From.l1
  refine ⟨fun t w' => ∃ k : Nat, t.2 = k ∧ k ≤ hs.length ∧ hs.all okFrom = (hs.drop k).all okFrom ∧ (∃ gs', gs'.length = k ∧ fromG 0 hs = gs' ++ fromG k (hs.drop k) ∧ New w.heap.size w' t.1 gs') ∧ Below w.heap.size w w', fun t _ => hs.length - t.2.toNat, ⟨0, rfl, Nat.zero_le _, rfl, ⟨[], rfl, rfl, New.nil (Nat.le_refl _)⟩, Below.refl _ _⟩, ?_⟩
  rintro ⟨out, _⟩ w1 ⟨k, rfl, hk, hall, ⟨gs', hgl, hG, hN⟩, hb⟩
  dsimp only at hN ⊢
  unfold logs_From.b1
  refine cond_d (fun hlt => ?_) fun hge => ?_
  · obtain ⟨p, hp, hc⟩ := (h.keep hb).get (i := (k : Int)) (by omega) hlt
    rw [Int.toNat_natCast] at hc
    have hx : hs[k]? = some (hs[k]?.getD 0) := by rw [List.getElem?_eq_getElem (by omega)]; rfl
    generalize hs[k]?.getD 0 = x at hc hx
    rw [drop_eq hx] at hall hG
    have badx : okFrom x = false → _ := fun hh => bad w1 hb fun hq => by
      rw [hall, List.all_cons, hh] at hq; simp at hq
    refine ⟨by omega, hlt, p, hp, x, by rw [Int.toNat_natCast]; exact hc, cond_d (fun hneg => badx (by simp [okFrom]; omega)) fun n1 => cond_d (fun hbig => badx (by simp [okFrom]; omega)) fun n2 => ?_⟩
    obtain ⟨s', w2, hr, hN2, hb2⟩ := hN.more (by omega) (k : Int) x
    unfold logs_From.c2
    refine ⟨_, _, _, w2, hr, ?_⟩
    rw [inc (by omega)]
    refine ⟨⟨rfl, rfl, k + 1, rfl, by omega, ?_, ⟨_, by rw [List.length_append, hgl]; rfl, ?_, hN2⟩, hb.trans hb2⟩, by (try dsimp only); omega⟩
    · have hox : okFrom x = true := by simp [okFrom]; omega
      rw [hall, List.all_cons, hox, Bool.true_and]
    · rw [hG, List.append_assoc]; rfl
  · have e : hs.drop k = [] := List.drop_of_length_le (by omega)
    rw [e] at hall hG
    have hR : fromR hs = (fromG 0 hs, 0) := by unfold fromR; rw [if_pos ⟨h8, by rw [hall]; rfl⟩]
    rw [hR, hG]
    refine ⟨out, rfl, ?_, hb⟩
    show New _ _ _ (gs' ++ [])
    rw [List.append_nil]; exact hN

theorem rfrom_spec {w : World} {s : Sl} {hs : List Int} (h : Ints .i64 w s hs) :
    CallsV Try.prog n_trystref22_From #[.slice s.a s.len s.cap] w fun v w' => ∃ s' : Sl, v = .tuple #[.slice s'.a s'.len s'.cap, .int .i64 (fromR hs).2] ∧ New w.heap.size w' s' (fromR hs).1 ∧ Below w.heap.size w w' := by
  have hl := h.len
  have bad : ∀ w', Below w.heap.size w w' → ¬ (hs.length = 8 ∧ hs.all okFrom = true) → ∃ s' : Sl, Value.tuple #[.slice none 0 0, .int .i64 1] = .tuple #[.slice s'.a s'.len s'.cap, .int .i64 (fromR hs).2] ∧ New w.heap.size w' s' (fromR hs).1 ∧ Below w.heap.size w w' := by
    intro w' hb hn
    unfold fromR
    rw [if_neg hn]
    exact ⟨⟨none, 0, 0⟩, rfl, New.nil hb.size, hb⟩
  refine trystref22_From.lift ?_
  unfold trystref22_From.main
  refine cond_n (fun hne => bad _ (Below.refl _ _) fun hh => by omega) fun he => ?_
  have h8 : hs.length = 8 := by omega
  unfold trystref22_From.l1
  refine ⟨fun t w' => ∃ k : Nat, t.2 = k ∧ k ≤ hs.length ∧ hs.all okFrom = (hs.drop k).all okFrom ∧ (∃ gs', gs'.length = k ∧ fromG 0 hs = gs' ++ fromG k (hs.drop k) ∧ New w.heap.size w' t.1 gs') ∧ Below w.heap.size w w', fun t _ => hs.length - t.2.toNat, ⟨0, rfl, Nat.zero_le _, rfl, ⟨[], rfl, rfl, New.nil (Nat.le_refl _)⟩, Below.refl _ _⟩, ?_⟩
  rintro ⟨out, _⟩ w1 ⟨k, rfl, hk, hall, ⟨gs', hgl, hG, hN⟩, hb⟩
  dsimp only at hN ⊢
  unfold trystref22_From.b1
  refine cond_d (fun hlt => ?_) fun hge => ?_
  · obtain ⟨p, hp, hc⟩ := (h.keep hb).get (i := (k : Int)) (by omega) hlt
    rw [Int.toNat_natCast] at hc
    have hx : hs[k]? = some (hs[k]?.getD 0) := by rw [List.getElem?_eq_getElem (by omega)]; rfl
    generalize hs[k]?.getD 0 = x at hc hx
    rw [drop_eq hx] at hall hG
    have badx : okFrom x = false → _ := fun hh => bad w1 hb fun hq => by
      rw [hall, List.all_cons, hh] at hq; simp at hq
    have hc' : w1.cell? (p.add (k : Int).toNat) = some (.int .i64 x) := by rw [Int.toNat_natCast]; exact hc
    refine ⟨by omega, hlt, p, hp, x, hc', cond_d (fun hneg => badx (by simp [okFrom]; omega)) fun n1 => ⟨by omega, hlt, p, hp, x, hc', cond_d (fun hbig => badx (by simp [okFrom]; omega)) fun n2 => ?_⟩⟩
    obtain ⟨s', w2, hr, hN2, hb2⟩ := hN.more (by omega) (k : Int) x
    unfold trystref22_From.c2
    refine ⟨by omega, hlt, p, hp, x, hc', _, _, _, w2, hr, ?_⟩
    rw [inc (by omega)]
    refine ⟨⟨rfl, k + 1, rfl, by omega, ?_, ⟨_, by rw [List.length_append, hgl]; rfl, ?_, hN2⟩, hb.trans hb2⟩, by (try dsimp only); omega⟩
    · have hox : okFrom x = true := by simp [okFrom]; omega
      rw [hall, List.all_cons, hox, Bool.true_and]
    · rw [hG, List.append_assoc]; rfl
  · have e : hs.drop k = [] := List.drop_of_length_le (by omega)
    rw [e] at hall hG
    have hR : fromR hs = (fromG 0 hs, 0) := by unfold fromR; rw [if_pos ⟨h8, by rw [hall]; rfl⟩]
    rw [hR, hG]
    refine ⟨out, rfl, ?_, hb⟩
    show New _ _ _ (gs' ++ [])
    rw [List.append_nil]; exact hN

end Go.Proofs.Ytcegohgmagppbaa

/-
  Logs: the page's Want.
-/
set_option linter.unusedVariables false
set_option linter.unusedSimpArgs false
namespace Go.Proofs.Ytcegohgmagppbaa
open Go.Lf Go.RowKit

theorem rwant_spec {w : World} {s t : Sl} {gs : List Log} {hs : List Int} (h : Logs w s gs) (ht : Ints .i64 w t hs) :
    CallsV Try.prog n_trystref22_Want #[.slice s.a s.len s.cap, .slice t.a t.len t.cap] w fun v w' => v = msgV (msgOf hs (wantG hs gs)) ∧ Below w.heap.size w w' := by
  have hl := h.len
  have hsm := h.small
  have htl := ht.len
  refine trystref22_Want.lift ?_
  unfold trystref22_Want.main
  intro w1
  have hb1 : Below w.heap.size w w1 := below_alloc _ _
  have hq1 : ∀ j, j < 3 → Wr w1 ((newA w).add j) := fun j hj => wr_new _ _ _ hj
  have hsz1 : w.heap.size + 1 ≤ w1.heap.size := by show _ ≤ (w.alloc _).heap.size; rw [size_alloc]; omega
  clear_value w1
  refine (rlogs_spec (Els.keep LogC.stab h hb1)).mono ?_
  rintro _ w2 ⟨rfl, hb2⟩
  have hb : Below w.heap.size w w2 := hb1.then hb2
  have hq : ∀ j, j < 3 → Wr w2 ((newA w).add j) := fun j hj => (hq1 j hj).below hb2 (by rw [add_block, newA_block]; omega)
  have hsz : w.heap.size + 1 ≤ w2.heap.size := Nat.le_trans hsz1 hb2.size
  refine ⟨_, rfl, cond_not (fun hne => ?_) fun hok => cond_n (fun hne => ?_) fun he2 => ?_⟩
  · have : wantG hs gs = none := by
      unfold wantG; rw [if_neg]; rintro ⟨h1, _⟩; rw [h1] at hne; cases hne
    rw [this]
    unfold trystref22_Want.c5
    exact want_none (R := fun v w' => v = msgV (msgOf hs none) ∧ Below w.heap.size w w') _ hq fun w' hw' => ⟨rfl, hb.trans (hw' _ (Nat.le_refl _))⟩
  · have : wantG hs gs = none := by
      unfold wantG; rw [if_neg]; rintro ⟨_, h1⟩; omega
    rw [this]
    unfold trystref22_Want.c5
    exact want_none (R := fun v w' => v = msgV (msgOf hs none) ∧ Below w.heap.size w w') _ hq fun w' hw' => ⟨rfl, hb.trans (hw' _ (Nat.le_refl _))⟩
  have hlen : hs.length = 8 := by omega
  have hG : wantG hs gs = gs.find? (wants hs) := by unfold wantG; rw [if_pos ⟨hok, hlen⟩]
  rw [hG]
  unfold trystref22_Want.c4 trystref22_Want.l2
  refine ⟨fun i w' => ∃ k : Nat, i = k ∧ k ≤ gs.length ∧ gs.find? (wants hs) = (gs.drop k).find? (wants hs) ∧ Below w.heap.size w w' ∧ Below w2.heap.size w2 w', fun i _ => gs.length - i.toNat, ⟨0, rfl, Nat.zero_le _, rfl, hb, Below.refl _ _⟩, ?_⟩
  rintro _ w3 ⟨k, rfl, hk, hf, hb3, hb4⟩
  have ht3 := ht.keep hb3
  unfold trystref22_Want.b2
  refine cond_d (fun hlt => ?_) fun hge => ?_
  · obtain ⟨p, g, m, hp, hg, c0, c1, c2, hm0⟩ := Logs.get h (i := (k : Int)) (by omega) hlt
    have hm := hm0.keep hb3
    replace c0 := hb3.here c0
    replace c1 := hb3.here c1
    replace c2 := hb3.here c2
    rw [Int.toNat_natCast] at hg
    obtain ⟨_, g0, g8, gf0, gf1, gl, gb⟩ := logsOk_mem hok g (List.mem_of_getElem? hg)
    obtain ⟨q, hq4, hc4⟩ := ht3.get g0 (by omega : g.c < t.len)
    have hml := hm.len
    have hstep : ∀ w5, Below w3.heap.size w3 w5 → wants hs g = false → ∃ k' : Nat, IntKind.i64.wrap ((k : Int) + 1) = k' ∧ (k' ≤ gs.length ∧ gs.find? (wants hs) = (gs.drop k').find? (wants hs) ∧ Below w.heap.size w w5 ∧ Below w2.heap.size w2 w5) ∧ gs.length - (IntKind.i64.wrap ((k : Int) + 1)).toNat < gs.length - (k : Int).toNat := by
      intro w5 hb5 hn
      have := (List.getElem?_eq_some_iff.1 hg).1
      rw [inc (by omega)]
      refine ⟨k + 1, rfl, ⟨by omega, ?_, hb3.next hb5 (Nat.le_refl _), hb4.next hb5 (Nat.le_refl _)⟩, by omega⟩
      rw [find_drop hg hf, hn]; rfl
    refine ⟨by omega, hlt, p, hp, g.c, c0, g0, by omega, q, hq4, hv hs g, hc4, cond_d (fun n1 => ?_) fun n1 => ?_⟩
    · refine ⟨by omega, hlt, p, hp, g.f, c1, cond_d (fun n2 => ?_) fun n2 => ?_⟩
      · refine ⟨by omega, hlt, p, hp, g.f, c1, by omega, hlt, p, hp, m.a, m.len, m.cap, c2, cond_d (fun n3 => ?_) fun n3 => ?_⟩
        · rw [w64 (by omega)] at n3
          have hwant : wants hs g = true := by simp [wants]; refine ⟨⟨by omega, ?_⟩, by omega⟩; omega
          have hfg : gs.find? (wants hs) = some g := by rw [find_drop hg hf, hwant]; rfl
          rw [hfg]
          unfold trystref22_Want.c3
          have ew : IntKind.i64.wrap (hv hs g - g.f) = hv hs g - g.f := by rw [w64 (by omega)]
          have ew1 : IntKind.i64.wrap (hv hs g + 1) = hv hs g + 1 := by rw [w64 (by omega)]
          obtain ⟨qb, hqb, hcb⟩ := hm.get (i := hv hs g - g.f) (by omega) (by omega)
          have hwq : ∀ j, j < 3 → Wr w3.drew.drew ((newA w).add j) := fun j hj => (hq j hj).below hb4.drew.drew (by rw [add_block, newA_block]; omega)
          refine ⟨fun x => x.cell? (p.add (k * 3)) = some (.int .i64 g.c) ∧ x.cell? ((p.add (k * 3)).add 1) = some (.int .i64 g.f) ∧ x.cell? ((p.add (k * 3)).add 2) = some (.slice m.a m.len m.cap) ∧ x.cell? (qb.add (hv hs g - g.f).toNat) = some (.int .i64 (g.b[(hv hs g - g.f).toNat]?.getD 0)),
            ⟨c0, c1, c2, hcb⟩, by omega, hlt, p, hp, _, fun x hx => hx.1, by omega, hlt, p, hp, _, _, _, fun x hx => hx.2.2.1, by omega, hlt, p, hp, _, fun x hx => hx.2.1, ?_⟩
          rw [ew, ew1]
          refine ⟨by omega, by omega, qb, hqb, _, fun x hx => hx.2.2.2, hwq, ?_⟩
          obtain ⟨r0, r1, r2⟩ := cells3 (newA w) hwq (.int .i64 g.c) (.int .i64 (hv hs g + 1)) (.int .i64 (g.b[(hv hs g - g.f).toNat]?.getD 0))
          refine ⟨_, r0, _, r1, _, r2, rfl, ?_⟩
          exact below_setCells (p := newA w) (Nat.le_refl w.heap.size) _ _ hb3.drew.drew
        · rw [w64 (by omega)] at n3
          have hn : wants hs g = false := by simp [wants]; intro _ _; omega
          obtain ⟨k', e, h1, h2⟩ := hstep _ below_drew hn
          exact ⟨⟨rfl, rfl, rfl, k', e, h1⟩, h2⟩
      · have hn : wants hs g = false := by simp [wants]; intro _ _; omega
        obtain ⟨k', e, h1, h2⟩ := hstep _ below_drew hn
        exact ⟨⟨rfl, rfl, rfl, k', e, h1⟩, h2⟩
    · have hn : wants hs g = false := by simp [wants]; intro _; omega
      obtain ⟨k', e, h1, h2⟩ := hstep _ below_drew hn
      exact ⟨⟨rfl, rfl, rfl, k', e, h1⟩, h2⟩
  · rw [hf, List.drop_eq_nil_of_le (by omega)]
    unfold trystref22_Want.c1
    exact want_none (R := fun v w' => v = msgV (msgOf hs none) ∧ Below w.heap.size w w') _ (fun j hj => (hq j hj).below hb4 (by rw [add_block, newA_block]; omega)) fun w' hw' => ⟨rfl, hb3.trans (hw' _ (Nat.le_refl _))⟩

end Go.Proofs.Ytcegohgmagppbaa
