/-
  What SlotsExact and the page's answer for it do: contracts.
-/
import Derived.Test.YtnnpkjhpeefnbaaSlots
set_option linter.unusedVariables false
set_option linter.unusedSimpArgs false
namespace Go.Proofs.Ytnnpkjhpeefnbaa
open Go.Lf Go.RowKit

theorem partner_no {w : World} {s : Sl} {xs : List Int} (h : Ints .i64 w s xs) {me round : Int} (hr : rightL xs = false ∨ round < 0) :
    CallsV Try.prog n_slots_Partner #[.slice s.a s.len s.cap, .int .i64 me, .int .i64 round] w fun v w' => v = .tuple #[.int .i64 0, .int .i64 1] ∧ w = w' := by
  refine slots_Partner.lift ?_
  unfold slots_Partner.main
  refine (right_spec h).mono ?_
  rintro _ _ ⟨rfl, rfl⟩
  refine ⟨_, rfl, ?_⟩
  refine cond_not (fun _ => ⟨rfl, rfl⟩) fun hx => cond_d (fun _ => ⟨rfl, rfl⟩) fun h0 => ?_
  rcases hr with hr | hr
  · rw [hr] at hx; cases hx
  · exact absurd hr h0

theorem partner_none {w : World} {s : Sl} {xs : List Int} (h : Ints .i64 w s xs) {me round : Int} (hno : ∀ j : Nat, xs[j]? ≠ some me) (hr : rightL xs = true) (h0 : 0 ≤ round) :
    CallsV Try.prog n_slots_Partner #[.slice s.a s.len s.cap, .int .i64 me, .int .i64 round] w fun v w' => v = .tuple #[.int .i64 0, .int .i64 8] ∧ w = w' := by
  refine slots_Partner.lift ?_
  unfold slots_Partner.main
  refine (right_spec h).mono ?_
  rintro _ _ ⟨rfl, rfl⟩
  refine ⟨_, rfl, ?_⟩
  refine cond_not (fun hx => by rw [hr] at hx; cases hx) fun hx => cond_d (fun h1 => by omega) fun _ => ?_
  unfold slots_Partner.c3
  refine (index_spec h me).mono ?_
  rintro _ _ ⟨⟨r, rfl, hres⟩, rfl⟩
  refine ⟨_, rfl, ?_⟩
  rcases hres with ⟨rfl, _⟩ | ⟨k, rfl, hk⟩
  · exact cond_d (fun _ => ⟨rfl, rfl⟩) fun h => by omega
  · exact absurd hk (hno k)

/-! the page's answer -/

def meetB (m k a q : Nat) : Bool := if a = m then 2 * q % m == k else if q = m then 2 * a % m == k else (a + q) % m == k
theorem meet_facts : ∀ m ∈ [1, 3, 5, 7], ∀ k < m, ∀ a ≤ m, (place m k a ≤ m && (place m k a != a) && meetB m k a (place m k a) && (List.range (place m k a)).all fun q => (q == a) || !meetB m k a q) = true := by decide +kernel

theorem ref_end {w : World} {s : Sl} {xs : List Int} (h : Ints .i64 w s xs) {R : Value → World → Prop} {N : Sl → Int → Int → Int → Int → World → Prop} {a n k : Int} {q : Nat} {M : Bool} (hq : q < 9)
    (hR : M = true → R (.int .i64 (if xs.length ≤ q then -1 else xs[q]?.getD 0)) w) (hN : M = false → N s a n k ((q + 1 : Nat) : Int) w) : trystref22_Partner.c4 R N s a n k q M w := by
  have hl := h.len
  unfold trystref22_Partner.c4
  have hc2 : (xs.length ≤ q ∨ M = false) → trystref22_Partner.c2 R N s a n k q M w := by
    intro hh
    unfold trystref22_Partner.c2
    refine cond_c (fun hM => ?_) fun hM => ?_
    · have := hR hM
      rw [if_pos (by rcases hh with h | h; exact h; rw [hM] at h; cases h)] at this
      exact this
    · intro q2
      have hq2 : q2 = ((q + 1 : Nat) : Int) := inc (by omega)
      clear_value q2
      subst hq2
      exact hN hM
  refine cond_c (fun hM => cond_d (fun hlt => ?_) fun hge => hc2 (.inl (by omega))) fun hM => hc2 (.inr hM)
  unfold trystref22_Partner.c3
  obtain ⟨p, hp, hc⟩ := h.get (i := (q : Int)) (by omega) hlt
  have := hR hM
  rw [if_neg (by omega)] at this
  rw [Int.toNat_natCast] at hc
  exact ⟨by omega, hlt, p, hp, _, by rw [Int.toNat_natCast]; exact hc, this⟩

theorem beq_cast {a b : Nat} : (((a : Nat) : Int) == ((b : Nat) : Int)) = (a == b) := by
  rw [Bool.eq_iff_iff, beq_iff_eq, beq_iff_eq]
  omega

theorem ref_partner_spec {w : World} {s : Sl} {xs : List Int} (h : Ints .i64 w s xs) (hr : rightL xs = true) {round : Int} (h0 : 0 ≤ round) {at_ : Nat} (hat : at_ < xs.length) :
    CallsV Try.prog n_trystref22_Partner #[.slice s.a s.len s.cap, .int .i64 at_, .int .i64 round] w fun v w' => v = .int .i64 (pv xs at_ round) ∧ w = w' := by
  obtain ⟨h1, h8, hrise⟩ := rightL_len hr
  have hl := h.len
  have hm := ring_mem h1 h8
  have hmp : 0 < ring xs.length ∧ ring xs.length ≤ 7 ∧ at_ ≤ ring xs.length := by unfold ring; omega
  have hk := Nat.mod_lt round.toNat hmp.1
  have hpv : pv xs at_ round = if xs.length ≤ place (ring xs.length) (round.toNat % ring xs.length) at_ then -1 else xs[place (ring xs.length) (round.toNat % ring xs.length) at_]?.getD 0 := rfl
  have hrc := ring_cast (n := xs.length) h1
  have hf := meet_facts _ hm _ hk at_ hmp.2.2
  generalize ring xs.length = m at *
  generalize hkk : round.toNat % m = k at *
  simp only [Bool.and_eq_true, decide_eq_true_eq, bne_iff_ne, List.all_eq_true, List.mem_range, Bool.or_eq_true, beq_iff_eq, Bool.not_eq_true'] at hf
  obtain ⟨⟨⟨f1, f2⟩, f3⟩, f4⟩ := hf
  refine trystref22_Partner.lift ?_
  unfold trystref22_Partner.main
  refine ⟨by decide, ?_⟩
  intro n7
  have hn7 : n7 = ((m + 1 : Nat) : Int) := by
    show IntKind.i64.wrap _ = _
    rw [hl, tmod_nn (by omega), w64 (by omega)]; omega
  clear_value n7
  subst hn7
  have hn1 : IntKind.i64.wrap (((m + 1 : Nat) : Int) - 1) = (m : Int) := by rw [w64 (by omega)]; omega
  rw [hn1]
  refine ⟨by omega, ?_⟩
  intro k8
  have hk8 : k8 = (k : Int) := by
    show Int.tmod _ _ = _
    rw [tmod_nn h0, ← hkk, Int.natCast_emod, Int.toNat_of_nonneg h0]
  clear_value k8
  subst hk8
  unfold trystref22_Partner.l1
  refine ⟨fun st w' => (∃ q : Nat, st = q ∧ q ≤ place m k at_) ∧ w = w', fun st _ => 9 - st.toNat, ⟨⟨0, rfl, Nat.zero_le _⟩, rfl⟩, ?_⟩
  rintro _ w' ⟨⟨q, rfl, hq⟩, rfl⟩
  unfold trystref22_Partner.b1
  rw [hn1]
  have e1 : Int.tmod (IntKind.i64.wrap ((at_ : Int) + q)) m = (((at_ + q) % m : Nat) : Int) := by
    rw [w64 (by omega), tmod_nn (by omega), Int.natCast_emod, Int.natCast_add]
  have e2 : Int.tmod (IntKind.i64.wrap (2 * (at_ : Int))) m = ((2 * at_ % m : Nat) : Int) := by
    rw [w64 (by omega), tmod_nn (by omega), Int.natCast_emod, Int.natCast_mul]; rfl
  have e3 : Int.tmod (IntKind.i64.wrap (2 * (q : Int))) m = ((2 * q % m : Nat) : Int) := by
    rw [w64 (by omega), tmod_nn (by omega), Int.natCast_emod, Int.natCast_mul]; rfl
  rw [e1, e2]
  refine cond_d (fun hlt => cond_e (fun he => ?_) fun hne => ?_) fun hge => by omega
  · intro q2
    have hq2 : q2 = ((q + 1 : Nat) : Int) := inc (by omega)
    clear_value q2
    subst hq2
    have : q ≠ place m k at_ := by intro hh; exact f2 (by omega)
    exact ⟨⟨rfl, rfl, rfl, rfl, ⟨q + 1, rfl, by omega⟩, rfl⟩, by (try dsimp only); omega⟩
  have hend : ∀ M : Bool, M = meetB m k at_ q → trystref22_Partner.c4 (fun v w' => v = .int .i64 (pv xs at_ round) ∧ w = w')
      (fun l0' place1' n7' k8' q9' w' => (l0' = s ∧ place1' = (at_ : Int) ∧ n7' = ((m + 1 : Nat) : Int) ∧ k8' = (k : Int) ∧ (∃ q : Nat, q9' = q ∧ q ≤ place m k at_) ∧ w = w') ∧ 9 - q9'.toNat < 9 - (q : Int).toNat) s at_ ((m + 1 : Nat) : Int) k q M w := by
    intro M hM
    refine ref_end h (by omega) (fun hT => ?_) fun hF => ?_
    · have hqp : q = place m k at_ := by
        rcases Nat.lt_or_ge q (place m k at_) with hlt | hge
        · rcases f4 q hlt with h | h
          · omega
          · rw [← hM, hT] at h; cases h
        · omega
      rw [hqp, hpv]
      exact ⟨rfl, rfl⟩
    · have : q ≠ place m k at_ := by intro hh; rw [hh, f3] at hM; rw [hM] at hF; cases hF
      exact ⟨⟨rfl, rfl, rfl, rfl, ⟨q + 1, rfl, by omega⟩, rfl⟩, by (try dsimp only); omega⟩
  have hc5 : ∀ M : Bool, (at_ ≠ m → M = meetB m k at_ q) → trystref22_Partner.c5 (fun v w' => v = .int .i64 (pv xs at_ round) ∧ w = w')
      (fun l0' place1' n7' k8' q9' w' => (l0' = s ∧ place1' = (at_ : Int) ∧ n7' = ((m + 1 : Nat) : Int) ∧ k8' = (k : Int) ∧ (∃ q : Nat, q9' = q ∧ q ≤ place m k at_) ∧ w = w') ∧ 9 - q9'.toNat < 9 - (q : Int).toNat) s at_ ((m + 1 : Nat) : Int) k q M w := by
    intro M hM
    unfold trystref22_Partner.c5
    rw [hn1, e3]
    refine cond_e (fun he => ⟨by omega, ?_⟩) fun hne => hend _ (hM (by omega))
    intro M2
    refine hend M2 ?_
    show (((2 * q % m : Nat) : Int) == (k : Int)) = _
    rw [beq_cast]
    unfold meetB
    rw [if_pos (by omega)]
  refine ⟨by omega, ?_⟩
  intro M5
  refine cond_e (fun he => ⟨by omega, ?_⟩) fun hne2 => hc5 M5 fun hne3 => ?_
  · intro M6
    refine hc5 M6 fun hne3 => ?_
    show (((2 * at_ % m : Nat) : Int) == (k : Int)) = _
    rw [beq_cast]
    unfold meetB
    rw [if_neg hne3, if_pos (by omega)]
  · show ((((at_ + q) % m : Nat) : Int) == (k : Int)) = _
    rw [beq_cast]
    unfold meetB
    rw [if_neg hne3, if_neg (by omega)]


theorem refMembers_spec {w : World} {s : Sl} {xs : List Int} (h : Ints .i64 w s xs) :
    CallsV Try.prog n_trystref22_Members #[.slice s.a s.len s.cap] w fun v w' => v = .bool (rightL xs) ∧ Same w w' := by
  refine trystref22_Members.lift ?_
  have hl := h.len
  unfold trystref22_Members.main
  refine cond_d (fun h1 => ⟨by simp [rightL]; omega, Same.refl _⟩) fun h1 => cond_d (fun h8 => ⟨by simp [rightL]; omega, Same.refl _⟩) fun h8 => ?_
  unfold trystref22_Members.c2 trystref22_Members.l1
  refine ⟨fun st w' => Same w w' ∧ ∃ (k : Nat) (l : Int), st = k ∧ k ≤ xs.length ∧ riseB (xs.drop k) l = riseB xs (-1) ∧ (k = 0 → l = -1) ∧ (0 < k → l = xs[k - 1]?.getD 0 ∧ 0 ≤ l), fun st _ => xs.length - st.toNat, ⟨Same.refl _, 0, -1, rfl, Nat.zero_le _, rfl, fun _ => rfl, fun h => by omega⟩, ?_⟩
  rintro _ w' ⟨hs, k, l, rfl, hle, hr, hl0, hlp⟩
  have hR : rightL xs = riseB (xs.drop k) l := by
    rw [hr]; simp [rightL]; omega
  have h' := h.same hs
  unfold trystref22_Members.b1
  refine cond_d (fun hlt => ?_) fun hge => ⟨by rw [hR, List.drop_eq_nil_of_le (by omega)]; rfl, hs⟩
  have hk' : k < xs.length := by omega
  obtain ⟨p, hp, hc⟩ := h'.get (i := (k : Int)) (by omega) (by omega)
  have hst := rise_step (l := l) hk'
  rw [Int.toNat_natCast] at hc
  have e0 : ((k : Nat) : Int).toNat = k := Int.toNat_natCast k
  rw [e0]
  have e1 : IntKind.i64.wrap ((k : Int) + 1) = ((k + 1 : Nat) : Int) := inc (by omega)
  rw [e1]
  generalize hx : xs[k]?.getD 0 = x at *
  refine ⟨by omega, by omega, p, hp, _, hc, cond_d (fun hneg => ⟨?_, hs.drew'⟩) fun hneg => ⟨by omega, by omega, p, hp, _, hc, cond_d (fun hy => ⟨?_, hs.drew'⟩) fun hy => ?_⟩⟩
  · have : ¬ l < x := by
      rcases Nat.eq_zero_or_pos k with h0 | h0
      · have := hl0 h0; omega
      · have := (hlp h0).2; omega
    rw [hR, hst, decide_eq_false this]; rfl
  · have : ¬ x < 8 := by omega
    rw [hR, hst, decide_eq_false this]; simp
  have hnext : l < x → (∃ (k_1 : Nat) (l_1 : Int), ((k + 1 : Nat) : Int) = k_1 ∧ k_1 ≤ xs.length ∧ riseB (xs.drop k_1) l_1 = riseB xs (-1) ∧ (k_1 = 0 → l_1 = -1) ∧ (0 < k_1 → l_1 = xs[k_1 - 1]?.getD 0 ∧ 0 ≤ l_1)) := by
    intro hlx
    refine ⟨k + 1, x, rfl, by omega, ?_, fun h => by omega, fun _ => ⟨by simp [hx], by omega⟩⟩
    rw [← hr, hst, decide_eq_true hlx, decide_eq_true (by omega : x < 8)]; rfl
  refine cond_d (fun hk0 => ⟨by omega, by omega, p, hp, _, hc, ?_⟩) fun hk0 => ?_
  · have ek : IntKind.i64.wrap ((k : Int) - 1) = ((k - 1 : Nat) : Int) := by rw [w64 (by omega)]; omega
    rw [ek]
    obtain ⟨p2, hp2, hc2⟩ := h'.get (i := ((k - 1 : Nat) : Int)) (by omega) (by omega)
    rw [Int.toNat_natCast, ← (hlp (by omega)).1] at hc2
    rw [Int.toNat_natCast]
    refine ⟨by omega, by omega, p2, hp2, _, hc2, cond_d (fun hz => ⟨?_, hs.drew'⟩) fun hz => ?_⟩
    · have : ¬ l < x := by omega
      rw [hR, hst, decide_eq_false this]; rfl
    · exact ⟨⟨rfl, hs.drew', hnext (by omega)⟩, by (try dsimp only); omega⟩
  · have := hl0 (by omega)
    exact ⟨⟨rfl, hs.drew', hnext (by omega)⟩, by (try dsimp only); omega⟩

theorem even_spec (r : Int) (w : World) : CallsV Try.prog n_slots_Even #[.int .i64 r] w fun v w' => v = .bool (Int.tmod r 2 == 0) ∧ w = w' := by
  refine slots_Even.lift ?_
  exact ⟨by decide, rfl, rfl⟩

theorem twinInts_spec {w : World} {s : Sl} {xs : List Int} (h : Ints .i64 w s xs) (hx : xs.length ≤ 1000000) :
    CallsV Try.prog n_trystkeep_TwinInts #[.slice s.a s.len s.cap] w fun v w' => ∃ s' : Sl, v = .slice s'.a s'.len s'.cap ∧ OwnI w.heap.size 3 .i64 w' s' xs ∧ Below w.heap.size w w' := by
  refine trystkeep_TwinInts.lift ?_
  obtain ⟨i, hi, hz, hsz, hby⟩ := info_int
  obtain ⟨s', w', hr, ho, hb⟩ := append_all (ty := 23) Try.underlying23 hi hz hsz hby rfl h (by unfold maxLen; omega) (by omega)
  exact ⟨_, _, _, _, hr, s', rfl, ho, hb⟩

theorem ints_spec {w : World} {s t : Sl} {xs ys : List Int} (h : Ints .i64 w s xs) (h' : Ints .i64 w t ys) :
    CallsV Try.prog n_trystkeep_Ints #[.slice s.a s.len s.cap, .slice t.a t.len t.cap] w fun v w' => v = .bool (decide (xs = ys)) ∧ Same w w' := by
  refine trystkeep_Ints.lift ?_
  have hl := h.len
  have hl' := h'.len
  have hsm := h.small
  unfold trystkeep_Ints.main
  refine cond_n (fun hne => ⟨by rw [decide_eq_false (fun he => hne (by rw [hl, hl', he]))], Same.refl _⟩) fun he => ?_
  unfold trystkeep_Ints.l1
  refine ⟨fun st w' => Same w w' ∧ ∃ k : Nat, st = k ∧ k ≤ xs.length ∧ xs.take k = ys.take k, fun st _ => xs.length - st.toNat, ⟨Same.refl _, 0, rfl, Nat.zero_le _, rfl⟩, ?_⟩
  rintro _ w' ⟨hs, k, rfl, hle, htk⟩
  unfold trystkeep_Ints.b1
  refine cond_d (fun hlt => ?_) fun hge => ⟨?_, hs⟩
  · obtain ⟨p, hp, hc⟩ := (h.same hs).get (i := (k : Int)) (by omega) (by omega)
    obtain ⟨q, hq, hd⟩ := (h'.same hs).get (i := (k : Int)) (by omega) (by omega)
    refine ⟨by omega, by omega, p, hp, _, hc, by omega, by omega, q, hq, _, hd, ?_⟩
    have hk : k < xs.length := by omega
    have hk' : k < ys.length := by omega
    rw [Int.toNat_natCast, List.getElem?_eq_getElem hk, List.getElem?_eq_getElem hk', Option.getD_some, Option.getD_some, inc (by omega)]
    refine cond_n (fun hne => ⟨?_, hs.drew'⟩) fun heq => ?_
    · rw [decide_eq_false]
      intro hxy
      subst hxy
      exact hne rfl
    · refine ⟨⟨rfl, rfl, hs.drew', k + 1, rfl, by omega, ?_⟩, by (try dsimp only); omega⟩
      rw [List.take_succ_eq_append_getElem hk, List.take_succ_eq_append_getElem hk', htk, heq]
  · rw [decide_eq_true]
    rwa [List.take_of_length_le (by omega), List.take_of_length_le (by omega)] at htk

theorem Ints.after {k : IntKind} {w w' : World} {s : Sl} {xs : List Int} (h : Ints k w s xs) (hb : Below w.heap.size w w') : Ints k w' s xs := h.keep hb

theorem exact22_spec {w : World} {s : Sl} {xs : List Int} (h : Ints .i64 w s xs) (me round : Int) :
    CallsV Try.prog n_trystlaw22_SlotsExact #[.slice s.a s.len s.cap, .int .i64 me, .int .i64 round] w fun v w' => v = .bool true ∧ Below w.heap.size w w' := by
  refine trystlaw22_SlotsExact.lift ?_
  have hl := h.len
  unfold trystlaw22_SlotsExact.main
  refine cond_d (fun _ => ⟨rfl, Below.refl _ _⟩) fun h50 => ?_
  refine (twinInts_spec h (by omega)).mono ?_
  rintro _ w1 ⟨t, rfl, ho, hb⟩
  refine ⟨_, _, _, rfl, ?_⟩
  have hT := ho.ints (by omega)
  have hS := h.keep hb
  have wk : ∀ w5 w0 : World, Same w1 w5 → CallsV Try.prog n_trystlaw22_wakes #[] w5 (fun v_1 w1 => ∃ b_2 : Bool, v_1 = .bool b_2 ∧ ((Value.bool b_2) = .bool true ∧ Below w.heap.size w w1)) := by
    intro w5 _ hs
    refine (wakes22_spec w5).mono ?_
    rintro _ w6 ⟨rfl, hb6⟩
    exact ⟨_, rfl, rfl, (hb.trans (hs.below _)).trans (hb6.mono (by rw [hs.size]; exact hb.size))⟩
  -- what the partner was, then the rest
  have rest : ∀ (x e : Int), (rightL xs = false ∨ round < 0 → x = 0 ∧ e = 1) → (rightL xs = true → 0 ≤ round → (∀ j : Nat, xs[j]? ≠ some me) → x = 0 ∧ e = 8) → (rightL xs = true → 0 ≤ round → ∀ a : Nat, xs[a]? = some me → x = pv xs a round ∧ e = 0) →
      ∃ x_19 x_20 : Int, Value.tuple #[.int .i64 x, .int .i64 e] = Value.tuple #[.int .i64 x_19, .int .i64 x_20] ∧
      CallsV Try.prog n_trystkeep_Ints #[.slice t.a t.len t.cap, .slice s.a s.len s.cap] w1 (fun v_21 w8 =>
        ∃ b_22 : Bool, v_21 = .bool b_22 ∧
        cond (!b_22)
        ((Value.bool false) = .bool true ∧ Below w.heap.size w w8)
        (CallsV Try.prog n_slots_Even #[.int .i64 round] w8 (fun v_23 w9 =>
        ∃ b_24 : Bool, v_23 = .bool b_24 ∧
        (2 : Int) ≠ 0 ∧
        cond (!(b_24 == (((Int.tmod round 2) : Int) == 0)))
        ((Value.bool false) = .bool true ∧ Below w.heap.size w w9)
        (trystlaw22_SlotsExact.c5 (fun v w' => v = .bool true ∧ Below w.heap.size w w') s me round x_19 x_20 w9)))) := by
    intro x e c1 c2 c3
    refine ⟨x, e, rfl, ?_⟩
    refine (ints_spec hT hS).mono ?_
    rintro _ w2 ⟨rfl, hs2⟩
    refine ⟨_, rfl, cond_f' (by simp) ?_⟩
    refine (even_spec round w2).mono ?_
    rintro _ _ ⟨rfl, rfl⟩
    refine ⟨_, rfl, by decide, cond_f' (by simp) ?_⟩
    unfold trystlaw22_SlotsExact.c5
    refine (refMembers_spec (hS.same hs2)).mono ?_
    rintro _ w3 ⟨rfl, hs3⟩
    have hs3 := hs2.trans hs3
    refine ⟨_, rfl, ?_⟩
    have bad : (rightL xs = false ∨ round < 0) → trystlaw22_SlotsExact.c4 (fun v w' => v = .bool true ∧ Below w.heap.size w w') x e w3 := by
      intro hbad
      obtain ⟨rfl, rfl⟩ := c1 hbad
      unfold trystlaw22_SlotsExact.c4
      exact cond_t rfl (cond_t rfl (wk w3 w3 hs3))
    refine cond_not (fun hR => bad (.inl hR)) fun hR => cond_d (fun hneg => bad (.inr hneg)) fun hpos => ?_
    unfold trystlaw22_SlotsExact.c3 trystlaw22_SlotsExact.l2
    refine ⟨fun st w' => Same w1 w' ∧ ∃ k : Nat, st = k ∧ k ≤ xs.length ∧ ∀ j : Nat, j < k → xs[j]? ≠ some me, fun st _ => xs.length - st.toNat, ⟨hs3, 0, rfl, Nat.zero_le _, fun j hj => by omega⟩, ?_⟩
    rintro _ w4 ⟨hs4, k, rfl, hle, hno⟩
    unfold trystlaw22_SlotsExact.b2
    refine cond_d (fun hlt => ?_) fun hge => ?_
    · obtain ⟨p, hp, hc⟩ := (hS.same hs4).get (i := (k : Int)) (by omega) (by omega)
      refine ⟨by omega, by omega, p, hp, _, hc, ?_⟩
      have hk : k < xs.length := by omega
      rw [Int.toNat_natCast, List.getElem?_eq_getElem hk, Option.getD_some, inc (by omega)]
      refine cond_e (fun heq => ?_) fun hne => ?_
      · obtain ⟨rfl, rfl⟩ := c3 hR (by omega) k (by rw [List.getElem?_eq_getElem hk, heq])
        refine cond_t rfl ?_
        refine (ref_partner_spec (hS.same hs4) hR (by omega) hk).mono ?_
        rintro _ _ ⟨rfl, rfl⟩
        exact ⟨_, rfl, cond_t (by simp) (wk w4 w4 hs4)⟩
      · refine ⟨⟨rfl, rfl, rfl, rfl, rfl, hs4, k + 1, rfl, by omega, fun j hj => ?_⟩, by (try dsimp only); omega⟩
        by_cases hjk : j = k
        · subst hjk; rw [List.getElem?_eq_getElem hk]; intro hh; exact hne (Option.some.inj hh)
        · exact hno j (by omega)
    · obtain ⟨rfl, rfl⟩ := c2 hR (by omega) fun j hj => by
        have : j < xs.length := (List.getElem?_eq_some_iff.1 hj).1
        exact hno j (by omega) hj
      unfold trystlaw22_SlotsExact.c1
      exact cond_t rfl (cond_t rfl (wk w4 w4 hs4))
  by_cases hbad : rightL xs = false ∨ round < 0
  · refine (partner_no hT hbad).mono ?_
    rintro _ _ ⟨rfl, rfl⟩
    refine rest 0 1 (fun _ => ⟨rfl, rfl⟩) (fun hR h0 => ?_) (fun hR h0 => ?_) <;> (rcases hbad with h | h; rw [hR] at h; cases h; omega)
  · have hR : rightL xs = true := by cases hh : rightL xs with | true => rfl | false => exact absurd (.inl hh) hbad
    have h0 : 0 ≤ round := by rcases Int.lt_or_le round 0 with h | h; exact absurd (.inr h) hbad; exact h
    by_cases hex : ∃ a : Nat, xs[a]? = some me
    · obtain ⟨a, ha⟩ := hex
      refine (partner_yes hT hR h0 ha).mono ?_
      rintro _ _ ⟨rfl, rfl⟩
      refine rest _ 0 (fun hh => absurd hh hbad) (fun _ _ hno => absurd ha (hno a)) (fun _ _ b hb => ?_)
      obtain rfl := rise_inj (rightL_len hR).2.2 ha hb
      exact ⟨rfl, rfl⟩
    · refine (partner_none hT (fun j hj => hex ⟨j, hj⟩) hR h0).mono ?_
      rintro _ _ ⟨rfl, rfl⟩
      exact rest 0 8 (fun hh => absurd hh hbad) (fun _ _ _ => ⟨rfl, rfl⟩) (fun _ _ a ha => absurd ⟨a, ha⟩ hex)

end Go.Proofs.Ytnnpkjhpeefnbaa
