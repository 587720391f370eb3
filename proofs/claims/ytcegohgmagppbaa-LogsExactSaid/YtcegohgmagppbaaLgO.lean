/-
  LogsExact: the law's walk.
-/
import Derived.Test.YtcegohgmagppbaaLgL
import Derived.Test.YtcegohgmagppbaaLwFns
set_option linter.unusedVariables false
set_option linter.unusedVariables false
set_option linter.unusedSimpArgs false
namespace Go.Proofs.Ytcegohgmagppbaa
open Go.Lf Go.RowKit

theorem Fit.nil : Fit [] := ⟨by simp, by simp⟩
theorem sayR_fit (c b : Int) (gs : List Log) : Fit (sayR c b gs).1 := by
  unfold sayR
  split
  · rename_i h
    split
    · exact Fit.nil
    · have := h.2.1
      simp only [okClient, Bool.and_eq_true, decide_eq_true_eq] at this
      exact ok_fit (addR_ok h.2.1 h.2.2 h.1 (by omega) (by omega))
  · exact Fit.nil
theorem putR_fit (c n b : Int) (gs : List Log) : Fit (putR c n b gs).1 := by
  unfold putR
  split
  · rename_i h
    split
    · exact ok_fit h.1
    · split
      · exact Fit.nil
      · split
        · exact Fit.nil
        · have := h.2.1
          simp only [okClient, Bool.and_eq_true, decide_eq_true_eq] at this
          exact ok_fit (addR_ok h.2.1 h.2.2.1 h.1 (by omega) (by omega))
  · exact Fit.nil
theorem fromG_length : ∀ (hs : List Int) (k : Nat), (fromG k hs).length = hs.length
  | [], _ => rfl
  | h :: r, k => by simp [fromG, fromG_length r (k + 1)]
theorem fromG_b : ∀ (hs : List Int) (k : Nat) (g : Log), g ∈ fromG k hs → g.b = []
  | [], _, g, h => by simp [fromG] at h
  | h :: r, k, g, hg => by
    simp only [fromG, List.mem_cons] at hg
    rcases hg with rfl | hg
    · rfl
    · exact fromG_b r (k + 1) g hg
theorem fromR_fit (hs : List Int) : Fit (fromR hs).1 := by
  unfold fromR
  split
  · rename_i h
    exact ⟨by show (fromG 0 hs).length ≤ _; rw [fromG_length]; omega, fun g hg => by rw [fromG_b hs 0 g hg]; simp⟩
  · exact Fit.nil

theorem heavy_fit {gs : List Log} (h : heavyG gs = false) : Fit gs := by
  unfold heavyG at h
  rw [Bool.or_eq_false_iff] at h
  refine ⟨by have := h.1; simp at this; omega, fun g hg => ?_⟩
  have := h.2
  rw [List.any_eq_false] at this
  have := this g hg
  simp at this; omega

structure Bs (W w : World) (l : Sl) (gs : List Log) (hv : Sl) (hs : List Int) (m : Addr) (a b c : Int) (i h : Sl) : Prop where
  l : Logs w l gs
  hv : Ints .i64 w hv hs
  m0 : w.cell? m = some (.int .i64 a)
  m1 : w.cell? (m.add 1) = some (.int .i64 b)
  m2 : w.cell? (m.add 2) = some (.int .i64 c)
  i : Logs w i gs
  h : Ints .i64 w h hs
  b : Below W.heap.size W w

theorem Bs.keep {W w w' : World} {l : Sl} {gs : List Log} {hv : Sl} {hs : List Int} {m : Addr} {a b c : Int} {i h : Sl} (x : Bs W w l gs hv hs m a b c i h) (hb : Below w.heap.size w w') : Bs W w' l gs hv hs m a b c i h :=
  ⟨Els.keep LogC.stab x.l hb, x.hv.keep hb, hb.here x.m0, hb.here x.m1, hb.here x.m2, Els.keep LogC.stab x.i hb, x.h.keep hb, x.b.next hb (Nat.le_refl _)⟩

section
variable {W : World} {l : Sl} {gs : List Log} {hv : Sl} {hs : List Int} {m : Addr} {a b c : Int} {i h : Sl}

abbrev RT (W : World) : Value → World → Prop := fun v w' => v = .bool true ∧ Below W.heap.size W w'

theorem exact_c1 {w : World} (x : Bs W w l gs hv hs m a b c i h) : trystlaw25_LogsExact.c1 (RT W) l hv i h w := by
  unfold trystlaw25_LogsExact.c1
  refine (klogs_spec x.i x.l).mono ?_
  rintro _ w1 ⟨⟨t, rfl, ht⟩, hb1⟩
  have x := x.keep hb1
  refine ⟨_, rfl, cond_t (ht.2 rfl) ((ints_spec x.h x.hv).mono ?_)⟩
  rintro _ w2 ⟨rfl, hs2⟩
  have x := x.keep (hs2.below _)
  refine ⟨_, rfl, cond_t (by simp) ((wakes_spec w2).mono ?_)⟩
  rintro _ w3 ⟨rfl, hb3⟩
  exact ⟨_, rfl, rfl, (x.keep hb3).b⟩

theorem exact_c2 {w : World} (x : Bs W w l gs hv hs m a b c i h) : trystlaw25_LogsExact.c2 (RT W) l hv i h w := by
  unfold trystlaw25_LogsExact.c2
  refine (from_spec x.h).mono ?_
  rintro _ w1 ⟨s1, rfl, hN1, hb1⟩
  have x := x.keep hb1
  refine ⟨_, _, _, _, rfl, (rfrom_spec x.hv).mono ?_⟩
  rintro _ w2 ⟨s2, rfl, hN2, hb2⟩
  have x := x.keep hb2
  refine ⟨_, _, _, _, rfl, (klogs_spec ((hN1.keep hb2).logs (fromR_fit hs)) (hN2.logs (fromR_fit hs))).mono ?_⟩
  rintro _ w3 ⟨⟨t, rfl, ht⟩, hb3⟩
  have x := x.keep hb3
  refine ⟨_, rfl, cond_f' (by rw [ht.2 rfl]; rfl) (cond_f' (by simp) (exact_c1 x))⟩

theorem exact_c3 {w0 w : World} {s9 : Sl} {gs9 : List Log} (x : Bs W w0 l gs hv hs m a b c i h) (hN : New w0.heap.size w s9 gs9) (hf : Fit gs9) (hb : Below w0.heap.size w0 w) : trystlaw25_LogsExact.c3 (RT W) l hv i h s9 w := by
  unfold trystlaw25_LogsExact.c3
  refine (spoilLogs_spec hN hf).mono ?_
  rintro _ w1 ⟨rfl, hb1⟩
  have x := x.keep (hb.trans hb1)
  refine ⟨rfl, (want_spec x.i x.h).mono ?_⟩
  rintro _ w2 ⟨rfl, hb2⟩
  have x := x.keep hb2
  refine ⟨_, _, _, _, rfl, fun j hj => wr_new _ _ _ hj, ?_⟩
  rw [box_set3]
  have hb3 := below_alloc w2 (.cells #[.int .i64 (msgOf hs (wantG hs gs)).1, .int .i64 (msgOf hs (wantG hs gs)).2.1, .int .i64 (msgOf hs (wantG hs gs)).2.2.1] 32)
  have x := x.keep hb3
  refine (rwant_spec x.l x.hv).mono ?_
  rintro _ w4 ⟨rfl, hb4⟩
  have x := x.keep hb4
  refine ⟨_, _, _, _, rfl, fun j hj => wr_new _ _ _ hj, ?_⟩
  rw [box_set3]
  have hb5 := below_alloc w4 (.cells #[.int .i64 (msgOf hs (wantG hs gs)).1, .int .i64 (msgOf hs (wantG hs gs)).2.1, .int .i64 (msgOf hs (wantG hs gs)).2.2.1] 32)
  have x := x.keep hb5
  have b45 := hb4.next hb5 (Nat.le_refl _)
  refine ⟨_, b45.here (cell_new0 _ _ _), _, b45.here (cell_new _ _ _ _), _, b45.here (cell_new _ _ _ _), _, cell_new0 _ _ _, _, cell_new _ _ _ _, _, cell_new _ _ _ _, ?_⟩
  refine (msg_spec _ _ _ _ _ _ _).mono ?_
  rintro _ w6 ⟨rfl, hb6⟩
  have x := x.keep hb6
  exact ⟨_, rfl, cond_f' (by simp) (cond_f' (by simp) (exact_c2 x))⟩

theorem exact_c4 {w0 w : World} {s9 : Sl} {gs9 : List Log} (hb63 : -9223372036854775808 ≤ b ∧ b ≤ 9223372036854775807) (x : Bs W w0 l gs hv hs m a b c i h) (hN : New w0.heap.size w s9 gs9) (hf : Fit gs9) (hb : Below w0.heap.size w0 w) : trystlaw25_LogsExact.c4 (RT W) l hv m i h s9 w := by
  unfold trystlaw25_LogsExact.c4
  refine (spoilLogs_spec hN hf).mono ?_
  rintro _ w1 ⟨rfl, hb1⟩
  have x := x.keep (hb.trans hb1)
  refine ⟨rfl, _, x.m0, _, x.m1, _, x.m2, (put_spec x.i a b c hb63).mono ?_⟩
  rintro _ w2 ⟨s2, rfl, hN2, hb2⟩
  have x2 := x.keep hb2
  refine ⟨_, _, _, _, _, rfl, _, x2.m0, _, x2.m1, _, x2.m2, (rput_spec x2.l a b c hb63).mono ?_⟩
  rintro _ w3 ⟨s3, rfl, hN3, hb3⟩
  refine ⟨_, _, _, _, _, rfl, (klogs_spec ((hN2.keep hb3).logs (putR_fit _ _ _ _)) (hN3.logs (putR_fit _ _ _ _))).mono ?_⟩
  rintro _ w4 ⟨⟨t, rfl, ht⟩, hb4⟩
  exact ⟨_, rfl, cond_f' (by rw [ht.2 rfl]; rfl) (cond_f' (by simp) (cond_f' (by simp) (exact_c3 x ((hN2.keep hb3).keep hb4) (putR_fit _ _ _ _) ((hb2.next hb3 (Nat.le_refl _)).next hb4 (Nat.le_refl _)))))⟩

theorem exact_c5 {w : World} (hb63 : -9223372036854775808 ≤ b ∧ b ≤ 9223372036854775807) (x : Bs W w l gs hv hs m a b c i h) : trystlaw25_LogsExact.c5 (RT W) l hv m i h w := by
  unfold trystlaw25_LogsExact.c5
  refine ⟨_, x.m0, _, x.m2, (say_spec x.i a c).mono ?_⟩
  rintro _ w2 ⟨s2, rfl, hN2, hb2⟩
  have x2 := x.keep hb2
  refine ⟨_, _, _, _, _, rfl, _, x2.m0, _, x2.m2, (rsay_spec x2.l a c).mono ?_⟩
  rintro _ w3 ⟨s3, rfl, hN3, hb3⟩
  refine ⟨_, _, _, _, _, rfl, (klogs_spec ((hN2.keep hb3).logs (sayR_fit _ _ _)) (hN3.logs (sayR_fit _ _ _))).mono ?_⟩
  rintro _ w4 ⟨⟨t, rfl, ht⟩, hb4⟩
  exact ⟨_, rfl, cond_f' (by rw [ht.2 rfl]; rfl) (cond_f' (by simp) (cond_f' (by simp) (exact_c4 hb63 x ((hN2.keep hb3).keep hb4) (sayR_fit _ _ _) ((hb2.next hb3 (Nat.le_refl _)).next hb4 (Nat.le_refl _)))))⟩

/-- what one has is the same -/
theorem exact_have {w : World} (hb63 : -9223372036854775808 ≤ b ∧ b ≤ 9223372036854775807) (x : Bs W w l gs hv hs m a b c i h) :
    CallsV Try.prog n_logs_Have #[.slice i.a i.len i.cap] w (fun v_93 w28 =>
      ∃ (a_94 : Option Addr) (l_95 c_96 : Nat), v_93 = .slice a_94 l_95 c_96 ∧
      CallsV Try.prog n_trystref22_Have #[.slice l.a l.len l.cap] w28 (fun v_97 w29 =>
      ∃ (a_98 : Option Addr) (l_99 c_100 : Nat), v_97 = .slice a_98 l_99 c_100 ∧
      CallsV Try.prog n_trystkeep_Ints #[.slice a_94 l_95 c_96, .slice a_98 l_99 c_100] w29 (fun v_101 w30 =>
      ∃ b_102 : Bool, v_101 = .bool b_102 ∧
      cond (!b_102)
      (RT W (.bool false) w30)
      (trystlaw25_LogsExact.c5 (RT W) l hv m i h w30)))) := by
  refine (have_spec x.i).mono ?_
  rintro _ w1 ⟨s1, rfl, ho1, hb1⟩
  have x := x.keep hb1
  refine ⟨_, _, _, rfl, (rhave_spec x.l).mono ?_⟩
  rintro _ w2 ⟨s2, rfl, ho2, hb2⟩
  have x := x.keep hb2
  have h8 := haveL_length gs
  refine ⟨_, _, _, rfl, (ints_spec ((ho1.ints (by omega)).keep hb2) (ho2.ints (by omega))).mono ?_⟩
  rintro _ w3 ⟨rfl, hs3⟩
  exact ⟨_, rfl, cond_f' (by simp) (exact_c5 hb63 (x.keep (hs3.below _)))⟩
end

theorem exact_spec {w : World} {l hv : Sl} {gs : List Log} {hs : List Int} (h : Logs w l gs) (ht : Ints .i64 w hv hs) (a b c : Int) (hb63 : -9223372036854775808 ≤ b ∧ b ≤ 9223372036854775807) :
    CallsV Try.prog n_trystlaw25_LogsExact #[.slice l.a l.len l.cap, .agg #[.int .i64 a, .int .i64 b, .int .i64 c], .slice hv.a hv.len hv.cap] w (RT w) := by
  refine trystlaw25_LogsExact.lift ?_
  unfold trystlaw25_LogsExact.main
  intro w0
  have hb0 : Below w.heap.size w w0 := below_alloc _ _
  have a0 : w0.cell? (newA w) = some (.int .i64 a) := cell_new0 _ _ _
  have a1 : w0.cell? ((newA w).add 1) = some (.int .i64 b) := cell_new _ _ _ _
  have a2 : w0.cell? ((newA w).add 2) = some (.int .i64 c) := cell_new _ _ _ _
  clear_value w0
  have h0 := Els.keep LogC.stab h hb0
  have ht0 := ht.keep hb0
  refine (heavy_spec h0).mono ?_
  rintro _ _ ⟨rfl, rfl⟩
  refine ⟨_, rfl, cond_c (fun _ => ⟨rfl, hb0⟩) fun hvy => cond_d (fun _ => ⟨rfl, hb0⟩) fun h50 => ?_⟩
  have hf := heavy_fit hvy
  unfold trystlaw25_LogsExact.c6
  refine (twinLogs_spec h0 hf).mono ?_
  rintro _ w1 ⟨i, rfl, hN, hb1⟩
  have htl := ht.len
  refine ⟨_, _, _, rfl, (twinInts_spec (ht0.keep hb1) (by omega)).mono ?_⟩
  rintro _ w2 ⟨t, rfl, ho, hb2⟩
  have hI := ho.ints (by omega)
  have b01 := hb1.next hb2 (Nat.le_refl _)
  have x : Bs w w2 l gs hv hs (newA w) a b c i t := ⟨Els.keep LogC.stab h0 b01, ht0.keep b01, b01.here a0, b01.here a1, b01.here a2, Els.keep LogC.stab (hN.logs hf) hb2, hI, hb0.next b01 (Nat.le_refl _)⟩
  refine ⟨_, _, _, rfl, (check_spec x.i).mono ?_⟩
  rintro _ w3 ⟨rfl, hb3⟩
  have x := x.keep hb3
  refine ⟨_, rfl, (rlogs_spec x.l).mono ?_⟩
  rintro _ w4 ⟨rfl, hb4⟩
  have x := x.keep hb4
  refine ⟨_, rfl, cond_f' (by cases logsOk (-1) gs <;> rfl) ((rlogs_spec x.l).mono ?_)⟩
  rintro _ w5 ⟨rfl, hb5⟩
  have x := x.keep hb5
  refine ⟨_, rfl, cond_not (fun hno => ?_) fun hok => ?_⟩
  · refine (check_spec x.i).mono ?_
    rintro _ w6 ⟨rfl, hb6⟩
    refine ⟨_, rfl, cond_f' (by rw [hno]; rfl) (exact_have hb63 (x.keep hb6))⟩
  · exact exact_have hb63 x

end Go.Proofs.Ytcegohgmagppbaa
