/-
  LogsBegin: the law's walk.
-/
import Derived.Test.YtcegohgmagppbaaLgP
set_option linter.unusedVariables false
set_option linter.unusedVariables false
set_option linter.unusedSimpArgs false
namespace Go.Proofs.Ytcegohgmagppbaa
open Go.Lf Go.RowKit

theorem fromG_ok : ∀ {hs : List Int} {k : Nat} {l : Int}, hs.all okFrom = true → l < k → k + hs.length ≤ 8 → logsOk l (fromG k hs) = true
  | [], _, _, _, _, _ => rfl
  | h :: r, k, l, ha, hl, h8 => by
    rw [List.all_cons, Bool.and_eq_true] at ha
    rw [List.length_cons] at h8
    show (okLog l ⟨(k : Int), h, []⟩ && logsOk (k : Int) (fromG (k + 1) r)) = true
    rw [fromG_ok ha.2 (by omega) (by omega), Bool.and_true]
    have h1 := ha.1
    simp [okFrom] at h1
    simp [okLog, okClient]
    omega

theorem fromG_lkp : ∀ {hs : List Int} {k : Nat} {c : Nat}, k ≤ c → c < k + hs.length → lkp (c : Int) (fromG k hs) = ⟨(c : Int), hs[c - k]?.getD 0, []⟩
  | [], _, _, h, h' => by simp at h'; omega
  | h :: r, k, c, h1, h2 => by
    rw [List.length_cons] at h2
    show (if (k : Int) < (c : Int) then lkp (c : Int) (fromG (k + 1) r) else if (k : Int) = (c : Int) then (⟨(k : Int), h, []⟩ : Log) else _) = _
    by_cases hk : k < c
    · rw [if_pos (by omega), fromG_lkp (by omega) (by omega), show c - k = (c - (k + 1)) + 1 by omega]
      simp
    · have : k = c := by omega
      subst this
      rw [if_neg (by omega), if_pos rfl]
      simp

theorem fromG_have {hs : List Int} (h8 : hs.length = 8) (ha : hs.all okFrom = true) : haveL (fromG 0 hs) = hs := by
  unfold haveL
  rw [if_pos (fromG_ok ha (by omega) (by omega))]
  apply List.ext_getElem?
  intro i
  by_cases hi : i < 8
  · rw [haves_get _ hi, fromG_lkp (by omega) (by omega)]
    simp [tot, hi, h8]
  · rw [List.getElem?_eq_none (by rw [haves_length]; omega), List.getElem?_eq_none (by omega)]

theorem fromG_mem : ∀ {hs : List Int} {k : Nat} {g : Log}, g ∈ fromG k hs → ∃ i : Nat, i < hs.length ∧ g = ⟨((k + i : Nat) : Int), hs[i]?.getD 0, []⟩
  | [], _, _, h => by simp [fromG] at h
  | h :: r, k, g, hg => by
    rcases List.mem_cons.1 (show g ∈ (⟨(k : Int), h, []⟩ : Log) :: fromG (k + 1) r from hg) with rfl | hg
    · exact ⟨0, by simp, by simp⟩
    · obtain ⟨i, hi, rfl⟩ := fromG_mem hg
      exact ⟨i + 1, by simp; exact hi, by simp; omega⟩

theorem find_add {p : Log → Bool} {c b : Int} : ∀ {gs : List Log}, (∀ g ∈ gs, g.c ≠ c → p g = false) → p ⟨c, (lkp c gs).f, (lkp c gs).b ++ [b]⟩ = true → (addR c b gs).find? p = some ⟨c, (lkp c gs).f, (lkp c gs).b ++ [b]⟩
  | [], _, h => by
    have h' : p ⟨c, 0, [b]⟩ = true := h
    show List.find? p [⟨c, 0, [b]⟩] = some ⟨c, 0, [b]⟩
    rw [List.find?_cons, h']
  | g :: r, ha, h => by
    unfold addR
    unfold lkp at h ⊢
    by_cases h1 : g.c < c
    · rw [if_pos h1] at h ⊢
      rw [if_pos h1]
      rw [List.find?_cons, ha g (by simp) (by omega)]
      exact find_add (fun x hx => ha x (List.mem_cons_of_mem _ hx)) h
    · rw [if_neg h1] at h ⊢
      rw [if_neg h1]
      by_cases h2 : g.c = c
      · rw [if_pos h2] at h ⊢
        rw [if_pos h2]
        subst h2
        rw [List.find?_cons, h]
      · rw [if_neg h2] at h ⊢
        rw [if_neg h2]
        have h' : p ⟨c, 0, [b]⟩ = true := h
        rw [List.find?_cons, h']; rfl

/-- nothing is wanted of what has just begun -/
theorem from_none {hs : List Int} {g : Log} (hg : g ∈ fromG 0 hs) : wants hs g = false := by
  obtain ⟨i, hi, rfl⟩ := fromG_mem hg
  simp [wants, hv]

theorem begin_spec {w : World} {s : Sl} {hs : List Int} (h : Ints .i64 w s hs) (c0 b0 : Int) :
    CallsV Try.prog n_trystlaw25_LogsBegin #[.slice s.a s.len s.cap, .int .i64 c0, .int .i64 b0] w (RT0 w) := by
  refine trystlaw25_LogsBegin.lift ?_
  have hl := h.len
  unfold trystlaw25_LogsBegin.main
  refine cond_d (fun _ => ⟨rfl, Below.refl _ _⟩) fun h50 => ?_
  refine (from_spec h).mono ?_
  rintro _ w1 ⟨s1, rfl, hN1, hb1⟩
  refine ⟨_, _, _, _, rfl, ?_⟩
  by_cases hgood : hs.length = 8 ∧ hs.all okFrom = true
  case neg =>
    have hR : fromR hs = ([], 1) := by unfold fromR; rw [if_neg hgood]
    rw [hR] at hN1 ⊢
    have hn1 : s1.len = 0 := (hN1.logs ⟨by simp, by simp⟩).len
    refine cond_t rfl (cond_t rfl (cond_t (by rw [hn1]; rfl) ((wakes_spec w1).mono ?_)))
    rintro _ w2 ⟨rfl, hb2⟩
    exact ⟨_, rfl, rfl, hb1.next hb2 (Nat.le_refl _)⟩
  obtain ⟨h8, hall⟩ := hgood
  have hR : fromR hs = (fromG 0 hs, 0) := by unfold fromR; rw [if_pos ⟨h8, hall⟩]
  have hok := fromG_ok (l := -1) (k := 0) hall (by omega) (by omega)
  have hfit := ok_fit hok
  have hHv := fromG_have h8 hall
  rw [hR] at hN1 ⊢
  generalize hgs : fromG 0 hs = gs at *
  have hL1 := hN1.logs hfit
  refine cond_f' rfl (cond_f' (by rw [hl, h8]; rfl) ((have_spec hL1).mono ?_))
  rintro _ w2 ⟨s2, rfl, ho2, hb2⟩
  have hb12 := hb1.next hb2 (Nat.le_refl _)
  rw [hHv] at ho2
  refine ⟨_, _, _, rfl, (ints_spec (ho2.ints (by omega)) (h.keep hb12)).mono ?_⟩
  rintro _ w3 ⟨rfl, hs3⟩
  have hb23 := hb2.trans (hs3.below _)
  refine ⟨_, rfl, cond_f' (by simp) ((check_spec (Els.keep LogC.stab hL1 hb23)).mono ?_)⟩
  rintro _ w4 ⟨rfl, hb4⟩
  rw [if_pos hok]
  refine ⟨_, rfl, cond_f' rfl ?_⟩
  have hb14 := hb23.next hb4 (Nat.le_refl _)
  have hb04 := hb1.next hb14 (Nat.le_refl _)
  have hL4 := Els.keep LogC.stab hL1 hb14
  unfold trystlaw25_LogsBegin.c3
  refine (want_spec hL4 (h.keep hb04)).mono ?_
  rintro _ w5 ⟨rfl, hb5⟩
  have hw : wantG hs gs = none := by
    unfold wantG
    rw [if_pos ⟨hok, h8⟩]
    rw [List.find?_eq_none]
    intro g hg
    rw [← hgs] at hg
    rw [from_none hg]; simp
  rw [hw]
  refine ⟨_, _, _, _, rfl, fun j hj => wr_new _ _ _ hj, ?_⟩
  rw [box_set3]
  have hb6 := below_alloc w5 (.cells #[.int .i64 (msgOf hs none).1, .int .i64 (msgOf hs none).2.1, .int .i64 (msgOf hs none).2.2.1] 32)
  generalize w5.alloc (.cells #[.int .i64 (msgOf hs none).1, .int .i64 (msgOf hs none).2.1, .int .i64 (msgOf hs none).2.2.1] 32) = w6 at hb6 ⊢
  have hb46 := hb5.next hb6 (Nat.le_refl _)
  have hb06 := hb04.next hb46 (Nat.le_refl _)
  have hL6 := Els.keep LogC.stab hL4 hb46
  have h6 := h.keep hb06
  refine cond_f' rfl ⟨by omega, by omega, ?_⟩
  intro c b
  obtain ⟨hc0, hc8⟩ := umod c0 8 (by omega) (by omega)
  have hc0 : 0 ≤ c := hc0
  have hc8 : c < 8 := hc8
  obtain ⟨hb0', hb1'⟩ := umod b0 1048577 (by omega) (by omega)
  have hb0' : 0 ≤ b := hb0'
  have hb1' : b < 1048577 := hb1'
  clear_value c b
  have hcl : okClient c = true := by simp [okClient]; omega
  have hbk : okBody b = true := by simp [okBody]; omega
  have hx : hs[c.toNat]? = some (hs[c.toNat]?.getD 0) := by rw [List.getElem?_eq_getElem (by omega)]; rfl
  obtain ⟨x, hxe⟩ : ∃ x, x = hs[c.toNat]?.getD 0 := ⟨_, rfl⟩
  rw [← hxe] at hx
  have hxok : okFrom x = true := by rw [List.all_eq_true] at hall; exact hall x (List.mem_of_getElem? hx)
  simp only [okFrom, Bool.and_eq_true, decide_eq_true_eq] at hxok
  have hlk : lkp c gs = ⟨c, x, []⟩ := by
    rw [← hgs]
    have := fromG_lkp (hs := hs) (k := 0) (c := c.toNat) (by omega) (by omega)
    rw [show ((c.toNat : Nat) : Int) = c by omega] at this
    rw [this, Nat.sub_zero, ← hxe]
  have htot : tot (lkp c gs) = x := by rw [hlk]; simp [tot]
  obtain ⟨q, hq, hqc⟩ := h.get hc0 (by omega : c < s.len)
  rw [← hxe] at hqc
  have hqlt := World.block_lt_of_cell? _ _ hqc
  refine ⟨hc0, by omega, q, hq, x, hb06.here hqc, ?_⟩
  rw [w64 (by omega)]
  refine (put_spec hL6 c (x + 1) b (by omega)).mono ?_
  rintro _ w7 ⟨s7, rfl, hN7, hb7⟩
  have hP7 : putR c (x + 1) b gs = (addR c b gs, true, 0) := by
    unfold putR
    rw [if_pos ⟨hok, hcl, hbk, by omega⟩, htot, if_neg (by omega), if_neg (by omega), if_neg (by rw [hlk]; simp)]
  rw [hP7] at hN7 ⊢
  have hok7 := addR_ok hcl hbk hok (by omega) (by rw [hlk]; simp)
  have hb07 := hb06.next hb7 (Nat.le_refl _)
  have hL7 := Els.keep LogC.stab hL6 hb7
  have hA7 := hN7.logs (ok_fit hok7)
  refine ⟨_, _, _, _, _, rfl, hc0, by omega, q, hq, x, hb07.here hqc, cond_e (fun _ => (wakes_spec w7).mono ?_) fun hne => ?_⟩
  · rintro _ w8 ⟨rfl, hb8⟩
    exact ⟨_, rfl, rfl, hb07.next hb8 (Nat.le_refl _)⟩
  refine ⟨hc0, by omega, q, hq, x, hb07.here hqc, ?_⟩
  rw [w64 (by omega)]
  refine (put_spec hL7 c (x + 2) b (by omega)).mono ?_
  rintro _ w8 ⟨s8, rfl, hN8, hb8⟩
  have hP8 : putR c (x + 2) b gs = ([], false, 14) := by
    unfold putR
    rw [if_pos ⟨hok, hcl, hbk, by omega⟩, htot, if_neg (by omega), if_pos (by omega)]
  rw [hP8]
  have hb08 := (hb07.next hb8 (Nat.le_refl _)).drew
  have hb78 := hb8.drew
  have hL8 := Els.keep LogC.stab hL7 hb78
  have hA8 := Els.keep LogC.stab hA7 hb78
  refine ⟨_, _, _, _, _, rfl, fun y => y.cell? (q.add c.toNat) = some (.int .i64 x), hb08.here hqc, cond_f' rfl (cond_f' rfl (cond_f' rfl ⟨hc0, by omega, q, hq, x, fun y hy => hy, ?_⟩))⟩
  refine (have_spec hA8).mono ?_
  rintro _ w9 ⟨s9, rfl, ho9, hb9⟩
  have hI9 := ho9.ints (by rw [haveL_length]; omega)
  have hI9l := hI9.len
  rw [haveL_length] at hI9l
  obtain ⟨q9, hq9, hc9⟩ := hI9.get hc0 (by omega : c < s9.len)
  have e9 : tot (lkp c (addR c b gs)) = x + 1 := by
    rw [lkp_add c hok (by omega), if_pos rfl, hlk]; simp [tot]
  rw [have_at hok7 hcl, Option.getD_some, e9] at hc9
  have hb09 := hb08.next hb9 (Nat.le_refl _)
  refine ⟨_, _, _, rfl, fun y => y.cell? (q.add c.toNat) = some (.int .i64 x) ∧ y.cell? (q9.add c.toNat) = some (.int .i64 (x + 1)), fun y hy => hy.1, ⟨hb09.here hqc, hc9⟩, hc0, by omega, q9, hq9, x + 1, fun y hy => hy.2, ?_⟩
  rw [w64 (by omega)]
  refine cond_f' (by simp) ?_
  have hL9 := Els.keep LogC.stab hL8 hb9
  have hA9 := Els.keep LogC.stab hA8 hb9
  -- the end
  have hend : ∀ w', Below w.heap.size w w' → Logs w' s7 (addR c b gs) → trystlaw25_LogsBegin.c1 (RT0 w) s c b ⟨s7.a, s7.len, s7.cap⟩ w' := by
    intro w' hb hA
    unfold trystlaw25_LogsBegin.c1
    refine (want_spec hA (h.keep hb)).mono ?_
    rintro _ w10 ⟨rfl, hb10⟩
    have hvc : hv hs ⟨c, x, [b]⟩ = x := hxe.symm
    have hf : wantG hs (addR c b gs) = some ⟨c, x, [b]⟩ := by
      unfold wantG
      rw [if_pos ⟨hok7, h8⟩]
      have := find_add (p := wants hs) (c := c) (b := b) (gs := gs) (fun g hg _ => by rw [← hgs] at hg; exact from_none hg) (by
        rw [hlk]
        unfold wants
        rw [show hv hs ⟨c, x, [] ++ [b]⟩ = x from hvc]
        simp; omega)
      rw [this, hlk]; rfl
    have hm : msgOf hs (some ⟨c, x, [b]⟩) = (c, x + 1, b, true) := by
      show (c, hv hs ⟨c, x, [b]⟩ + 1, [b][(hv hs ⟨c, x, [b]⟩ - x).toNat]?.getD 0, true) = _
      rw [hvc]; simp
    rw [hf, hm]
    refine ⟨_, _, _, _, rfl, fun j hj => wr_new _ _ _ hj, ?_⟩
    rw [box_set3]
    have hbA := below_alloc w10 (.cells #[.int .i64 c, .int .i64 (x + 1), .int .i64 b] 32)
    have a0 : (w10.alloc (.cells #[.int .i64 c, .int .i64 (x + 1), .int .i64 b] 32)).drew.cell? (newA w10) = some (.int .i64 c) := cell_new0 _ _ _
    have a1 : (w10.alloc (.cells #[.int .i64 c, .int .i64 (x + 1), .int .i64 b] 32)).drew.cell? ((newA w10).add 1) = some (.int .i64 (x + 1)) := cell_new _ _ _ _
    have a2 : (w10.alloc (.cells #[.int .i64 c, .int .i64 (x + 1), .int .i64 b] 32)).drew.cell? ((newA w10).add 2) = some (.int .i64 b) := cell_new _ _ _ _
    have hbB := ((hb.next hb10 (Nat.le_refl _)).next hbA (Nat.le_refl _)).drew
    refine ⟨fun y => y.cell? (newA w10) = some (.int .i64 c) ∧ y.cell? ((newA w10).add 1) = some (.int .i64 (x + 1)) ∧ y.cell? ((newA w10).add 2) = some (.int .i64 b) ∧ y.cell? (q.add c.toNat) = some (.int .i64 x), ⟨a0, a1, a2, hbB.here hqc⟩, cond_t rfl ⟨_, fun y hy => hy.1, cond_t (by simp) ⟨_, fun y hy => hy.2.1, hc0, by omega, q, hq, x, fun y hy => hy.2.2.2, ?_⟩⟩⟩
    rw [w64 (by omega)]
    refine cond_t (by simp) ⟨_, fun y hy => hy.2.2.1, cond_t (by simp) ((wakes_spec _).mono ?_)⟩
    rintro _ w11 ⟨rfl, hb11⟩
    exact ⟨_, rfl, rfl, hbB.next hb11 (Nat.le_refl _)⟩
  unfold trystlaw25_LogsBegin.c2
  refine ⟨hc0, by omega, q, hq, x, hb09.here hqc, cond_d (fun hpos => ?_) fun _ => hend _ hb09 hA9⟩
  refine ⟨hc0, by omega, q, hq, x, hb09.here hqc, (put_spec hL9 c x b (by omega)).mono ?_⟩
  rintro _ wA ⟨sA, rfl, hNA, hbA⟩
  have hPA : putR c x b gs = (gs, false, 0) := by
    unfold putR
    rw [if_pos ⟨hok, hcl, hbk, by omega⟩, htot, if_pos (by omega)]
  rw [hPA] at hNA ⊢
  have hLA := Els.keep LogC.stab hL9 hbA
  refine ⟨_, _, _, _, _, rfl, cond_f' rfl (cond_f' rfl ((klogs_spec (hNA.logs hfit) hLA).mono ?_))⟩
  rintro _ wB ⟨⟨t, rfl, ht⟩, hbB⟩
  refine ⟨_, rfl, cond_f' (by rw [ht.2 rfl]; rfl) ?_⟩
  have hb9B := hbA.next hbB (Nat.le_refl _)
  exact hend _ (hb09.next hb9B (Nat.le_refl _)) (Els.keep LogC.stab hA9 hb9B)

end Go.Proofs.Ytcegohgmagppbaa
