/-
  LogsLong: the law's walk.
-/
import Derived.Test.YtcegohgmagppbaaLgL
import Derived.Test.YtcegohgmagppbaaLwFns
set_option linter.unusedVariables false
set_option linter.unusedVariables false
set_option linter.unusedSimpArgs false
namespace Go.Proofs.Ytcegohgmagppbaa
open Go.Lf Go.RowKit

abbrev RT0 (W : World) : Value → World → Prop := fun v w' => v = .bool true ∧ Below W.heap.size W w'

theorem umod (x m : Int) (h0 : 0 < m) (h1 : m ≤ 1000000000) : 0 ≤ IntKind.i64.wrap (Int.tmod (IntKind.u64.wrap x) m) ∧ IntKind.i64.wrap (Int.tmod (IntKind.u64.wrap x) m) < m := by
  have h := wrap_within .u64 x
  have h2 : (IntKind.u64).min = 0 := by decide
  rw [h2] at h
  rw [tmod_nn h.1]
  have e1 := Int.emod_nonneg (IntKind.u64.wrap x) (show m ≠ 0 by omega)
  have e2 := Int.emod_lt_of_pos (IntKind.u64.wrap x) h0
  rw [w64 (by omega)]
  exact ⟨e1, e2⟩

def longL (c : Int) (bs : List Int) : List Log := if bs = [] then [] else [⟨c, 0, bs⟩]

theorem longL_lkp (c : Int) (bs : List Int) : lkp c (longL c bs) = ⟨c, 0, bs⟩ := by
  unfold longL
  split
  · rename_i h; subst h; rfl
  · unfold lkp; rw [if_neg (by simp), if_pos rfl]
theorem longL_add (c b : Int) (bs : List Int) : addR c b (longL c bs) = longL c (bs ++ [b]) := by
  unfold longL
  rw [if_neg (by simp : ¬ bs ++ [b] = [])]
  split
  · rename_i h; subst h; rfl
  · unfold addR; rw [if_neg (by simp), if_pos rfl]
theorem longL_ok {c : Int} {bs : List Int} (hc : okClient c = true) (hb : bs.length ≤ 32) (ho : bs.all okBody = true) : logsOk (-1) (longL c bs) = true := by
  unfold longL
  split
  · rfl
  · have := hc
    simp only [okClient, Bool.and_eq_true, decide_eq_true_eq] at this
    show (okLog (-1) ⟨c, 0, bs⟩ && logsOk c []) = true
    simp [okLog, hc, logsOk, hb]
    exact ⟨by omega, by simpa using ho⟩

theorem Logs.nil {w : World} : Logs w ⟨none, 0, 0⟩ [] := Els.nil

theorem long_spec {w : World} {s : Sl} {xs : List Int} (h : Ints .i64 w s xs) (c0 : Int) :
    CallsV Try.prog n_trystlaw25_LogsLong #[.int .i64 c0, .slice s.a s.len s.cap] w (RT0 w) := by
  refine trystlaw25_LogsLong.lift ?_
  have hl := h.len
  unfold trystlaw25_LogsLong.main
  refine cond_d (fun _ => ⟨rfl, Below.refl _ _⟩) fun h100 => ⟨by omega, ?_⟩
  intro c
  obtain ⟨hc0, hc8⟩ := umod c0 8 (by omega) (by omega)
  have hc0 : 0 ≤ c := hc0
  have hc8 : c < 8 := hc8
  clear_value c
  have hcl : okClient c = true := by simp [okClient]; omega
  unfold trystlaw25_LogsLong.l2
  refine ⟨fun t w' => ∃ i : Nat, t.2.2 = i ∧ i ≤ xs.length ∧ (∃ bs : List Int, bs.length = min i 32 ∧ bs.all okBody = true ∧ Logs w' t.1 (longL c bs) ∧ Logs w' t.2.1 (longL c bs)) ∧ Below w.heap.size w w', fun t _ => xs.length - t.2.2.toNat, ⟨0, rfl, Nat.zero_le _, ⟨[], rfl, rfl, Logs.nil, Logs.nil⟩, Below.refl _ _⟩, ?_⟩
  rintro ⟨l, k, _⟩ w1 ⟨i, rfl, hi, ⟨bs, hbl, hbo, hL, hK⟩, hb⟩
  dsimp only at hL hK ⊢
  have hok := longL_ok (bs := bs) hcl (by omega) hbo
  unfold trystlaw25_LogsLong.b2
  refine cond_d (fun hlt => ?_) fun hge => ?_
  · obtain ⟨p, hp, hcx⟩ := (h.keep hb).get (i := (i : Int)) (by omega) hlt
    refine ⟨by omega, hlt, p, hp, _, hcx, by omega, ?_⟩
    intro b
    obtain ⟨hb0, hb1⟩ := umod (xs[(i : Int).toNat]?.getD 0) 1048577 (by omega) (by omega)
    have hb0 : 0 ≤ b := hb0
    have hb1 : b < 1048577 := hb1
    clear_value b
    have hbk : okBody b = true := by simp [okBody]; omega
    refine (say_spec hL c b).mono ?_
    rintro _ w2 ⟨s2, rfl, hN2, hb2⟩
    rw [inc (by omega)]
    refine ⟨_, _, _, _, _, rfl, (put_spec (Els.keep LogC.stab hK hb2) c ((i + 1 : Nat) : Int) b (by omega)).mono ?_⟩
    rintro _ w3 ⟨s3, rfl, hN3, hb3⟩
    have hb13 := hb2.next hb3 (Nat.le_refl _)
    have hbw := hb.next hb13 (Nat.le_refl _)
    have htot : tot (lkp c (longL c bs)) = (bs.length : Int) := by rw [longL_lkp]; simp [tot]
    have hlb : (lkp c (longL c bs)).b.length = bs.length := by rw [longL_lkp]
    refine ⟨_, _, _, _, _, rfl, cond_d (fun h32 => ?_) fun h32 => ?_⟩
    · have hb32 : bs.length = 32 := by omega
      have hS : sayR c b (longL c bs) = ([], 0, 20) := by unfold sayR; rw [if_pos ⟨hok, hcl, hbk⟩, if_pos (by omega)]
      rw [hS] at hN2 ⊢
      have hn2 : s2.len = 0 := (hN2.logs ⟨by simp, by simp⟩).len
      have hnext : ∀ P : Prop, P → P := fun _ h => h
      have hdone : ((c = c ∧ s = s ∧ ∃ i' : Nat, ((i + 1 : Nat) : Int) = i' ∧ i' ≤ xs.length ∧ (∃ bs : List Int, bs.length = min i' 32 ∧ bs.all okBody = true ∧ Logs w3 l (longL c bs) ∧ Logs w3 k (longL c bs)) ∧ Below w.heap.size w w3) ∧ xs.length - (((i + 1 : Nat) : Int)).toNat < xs.length - (i : Int).toNat) :=
        ⟨⟨rfl, rfl, i + 1, rfl, by omega, ⟨bs, by omega, hbo, Els.keep LogC.stab hL hb13, Els.keep LogC.stab hK hb13⟩, hbw⟩, by omega⟩
      refine cond_f' (by simp) (cond_f' (by simp) (cond_f' (by simp; omega) ?_))
      by_cases hi32 : i = 32
      · have hP : putR c ((i + 1 : Nat) : Int) b (longL c bs) = ([], false, 20) := by
          unfold putR
          rw [if_pos ⟨hok, hcl, hbk, by omega⟩, htot, if_neg (by omega), if_neg (by omega), if_pos (by omega)]
        rw [hP]
        exact cond_f' rfl (cond_t (by simp; omega) (cond_f' (by simp) (cond_d (fun hgt => by omega) fun _ => hdone)))
      · have hP : putR c ((i + 1 : Nat) : Int) b (longL c bs) = ([], false, 14) := by
          unfold putR
          rw [if_pos ⟨hok, hcl, hbk, by omega⟩, htot, if_neg (by omega), if_pos (by omega)]
        rw [hP]
        exact cond_f' rfl (cond_f' (by simp; omega) (cond_t (by simp; omega) (cond_f' (by simp) hdone)))
    · have hbi : bs.length = i := by omega
      have hS : sayR c b (longL c bs) = (longL c (bs ++ [b]), ((i + 1 : Nat) : Int), 0) := by
        unfold sayR; rw [if_pos ⟨hok, hcl, hbk⟩, if_neg (by omega), longL_add, htot, hbi]; rfl
      have hP : putR c ((i + 1 : Nat) : Int) b (longL c bs) = (longL c (bs ++ [b]), true, 0) := by
        unfold putR
        rw [if_pos ⟨hok, hcl, hbk, by omega⟩, htot, if_neg (by omega), if_neg (by omega), if_neg (by omega), longL_add]
      rw [hS] at hN2 ⊢
      rw [hP] at hN3 ⊢
      have hok2 := longL_ok (c := c) (bs := bs ++ [b]) hcl (by simp; omega) (by rw [List.all_append, hbo]; simp [hbk])
      have L2 := (hN2.keep hb3).logs (ok_fit hok2)
      have L3 := hN3.logs (ok_fit hok2)
      refine cond_f' (by simp) (cond_f' (by simp) (cond_f' rfl (cond_f' (by simp) ((klogs_spec L2 L3).mono ?_))))
      rintro _ w4 ⟨⟨t, rfl, ht⟩, hb4⟩
      refine ⟨_, rfl, cond_f' (by rw [ht.2 rfl]; rfl) ?_⟩
      unfold trystlaw25_LogsLong.c3
      rw [inc (by omega)]
      exact ⟨⟨rfl, rfl, i + 1, rfl, by omega, ⟨bs ++ [b], by simp; omega, by rw [List.all_append, hbo]; simp [hbk], Els.keep LogC.stab L2 hb4, Els.keep LogC.stab L3 hb4⟩, hbw.next hb4 (Nat.le_refl _)⟩, by (try dsimp only); omega⟩
  · unfold trystlaw25_LogsLong.c1
    refine (have_spec hL).mono ?_
    rintro _ w2 ⟨s2, rfl, ho, hb2⟩
    have h8 := haveL_length (longL c bs)
    have hI := ho.ints (by omega)
    have hIl := hI.len
    obtain ⟨q, hq, hc3⟩ := hI.get (i := c) (by omega) (by omega)
    rw [have_at hok hcl, Option.getD_some, longL_lkp] at hc3
    refine ⟨_, _, _, rfl, cond_t (by rw [hIl, h8]; rfl) ⟨by omega, by omega, q, hq, _, hc3, ?_⟩⟩
    have he : tot ⟨c, 0, bs⟩ = if 32 < ((s.len : Nat) : Int) then 32 else ((s.len : Nat) : Int) := by
      have hbi : tot ⟨c, 0, bs⟩ = (bs.length : Int) := by simp [tot]
      rw [hbi]
      split <;> omega
    refine cond_t (by rw [he]; simp) ((wakes_spec w2).mono ?_)
    rintro _ w3 ⟨rfl, hb3⟩
    exact ⟨_, rfl, rfl, (hb.next hb2 (Nat.le_refl _)).next hb3 (Nat.le_refl _)⟩

end Go.Proofs.Ytcegohgmagppbaa
