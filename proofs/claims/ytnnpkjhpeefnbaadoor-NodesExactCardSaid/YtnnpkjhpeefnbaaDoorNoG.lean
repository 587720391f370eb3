/-
  Nodes: what is beneath, of the page; lists of numbers held against one another; the wake: contracts.
-/
import Derived.Test.YtnnpkjhpeefnbaaDoorNoF
set_option linter.unusedVariables false
set_option linter.unusedSimpArgs false
namespace Go.Proofs.YtnnpkjhpeefnbaaDoor
open Go.Lf Go.RowKit

theorem ref_has_spec (x i : Int) (w : World) : CallsV Tryd.prog n_trystref15_Has #[.int .i64 x, .int .i64 i] w fun v w' => v = .bool (hasI x i) ∧ w = w' := by
  refine trystref15_Has.lift ?_
  unfold trystref15_Has.main
  refine cond_d (fun h => ⟨by congr 1; simp [hasI]; omega, rfl⟩) fun h1 => cond_d (fun h => ⟨by congr 1; simp [hasI]; omega, rfl⟩) fun h2 => cond_d (fun h => ⟨by congr 1; simp [hasI]; omega, rfl⟩) fun h3 => cond_d (fun h => ⟨by congr 1; simp [hasI]; omega, rfl⟩) fun h4 => ?_
  unfold trystref15_Has.c1
  refine (ref_level_spec x (by omega) w).mono ?_
  rintro _ _ ⟨rfl, rfl⟩
  obtain ⟨l0, l5⟩ := lev_small (x := x) (by omega) (by omega)
  obtain ⟨p1, p2, p3⟩ := shl_small (l := levI x) (by omega) (by omega)
  refine ⟨_, rfl, ?_⟩
  rw [u64_small (by omega)]
  refine ⟨l0, ?_⟩
  rw [p1]
  have hh : hasI x i = (decide (x - (2 ^ (levI x).toNat - 1) ≤ 2 * i) && decide (2 * i ≤ x + (2 ^ (levI x).toNat - 1))) := by
    unfold hasI
    rw [decide_eq_true (show 0 ≤ x by omega), decide_eq_true (show 0 ≤ i by omega), decide_eq_true (show x ≤ 16 by omega), decide_eq_true (show i ≤ 16 by omega)]; rfl
  rw [hh]
  generalize (2 : Int) ^ (levI x).toNat = q at *
  intro k5
  have hf : k5 = q := rfl
  clear_value k5
  subst hf
  rw [w64 (n := 2 * i) (by omega), w64 (n := x - k5) (by omega), w64 (n := x + k5) (by omega), w64 (n := x - k5 + 1) (by omega), w64 (n := x + k5 - 1) (by omega)]
  refine cond_d (fun h => ?_) fun h => ?_
  · rw [decide_eq_true (show x - (k5 - 1) ≤ 2 * i by omega)]
    exact ⟨by congr 1; simp; omega, rfl⟩
  · rw [decide_eq_false (show ¬ x - (k5 - 1) ≤ 2 * i by omega)]
    exact ⟨rfl, rfl⟩

theorem ints_spec {w : World} {s t : Sl} {xs ys : List Int} (h : Ints .i64 w s xs) (h' : Ints .i64 w t ys) :
    CallsV Tryd.prog n_trystkeep_Ints #[.slice s.a s.len s.cap, .slice t.a t.len t.cap] w fun v w' => v = .bool (decide (xs = ys)) ∧ Same w w' := by
  refine trystkeep_Ints.lift ?_
  have hl := h.len
  have hl' := h'.len
  have hsm := h.small
  unfold trystkeep_Ints.main
  refine cond_n (fun hne => ⟨by rw [decide_eq_false (fun he => hne (by rw [hl, hl', he]))], Same.refl _⟩) fun he => ?_
  unfold trystkeep_Ints.l1
  refine ⟨fun st w' => Same w w' ∧ ∃ k : Nat, st = k ∧ k ≤ xs.length ∧ xs.take k = ys.take k, fun st _ => xs.length - st.toNat, ⟨Same.refl _, 0, rfl, Nat.zero_le _, rfl⟩, ?_⟩
  rintro _ w' ⟨hs, k, rfl, hle, htk⟩
  unfold trystkeep_Ints.b1
  refine cond_d (fun hlt => ?_) fun hge => ⟨?_, hs⟩
  · obtain ⟨p, hp, hc⟩ := (h.same hs).get (i := (k : Int)) (by omega) (by omega)
    obtain ⟨q, hq, hd⟩ := (h'.same hs).get (i := (k : Int)) (by omega) (by omega)
    refine ⟨by omega, by omega, p, hp, _, hc, by omega, by omega, q, hq, _, hd, ?_⟩
    have hk : k < xs.length := by omega
    have hk' : k < ys.length := by omega
    rw [Int.toNat_natCast, List.getElem?_eq_getElem hk, List.getElem?_eq_getElem hk', Option.getD_some, Option.getD_some, inc (by omega)]
    refine cond_n (fun hne => ⟨?_, hs.drew'⟩) fun heq => ?_
    · rw [decide_eq_false]
      intro hxy
      subst hxy
      exact hne rfl
    · refine ⟨⟨rfl, rfl, hs.drew', k + 1, rfl, by omega, ?_⟩, by (try dsimp only); omega⟩
      rw [List.take_succ_eq_append_getElem hk, List.take_succ_eq_append_getElem hk', htk, heq]
  · rw [decide_eq_true]
    rwa [List.take_of_length_le (by omega), List.take_of_length_le (by omega)] at htk

theorem Tab.same {w w' : World} (h : Tab w) (hs : Same w w') : Tab w' := fun i hi => by rw [hs.cell]; exact h i hi

theorem wakes15_spec {w : World} (ht : Tab w) : CallsV Tryd.prog n_trystlaw15_wakes #[] w fun v w' => v = .bool true ∧ Below w.heap.size w w' := by
  refine trystlaw15_wakes.lift ?_
  unfold trystlaw15_wakes.main
  refine (path_spec ht (i := 0) (n := 4) (by simp) (by omega)).mono ?_
  rintro _ w1 ⟨s, rfl, ho, hb⟩
  refine ⟨_, _, _, _, rfl, ?_⟩
  refine (sibling_spec (ht.below hb) 2 4 (by omega)).mono ?_
  rintro _ _ ⟨rfl, rfl⟩
  have hp : pathI ((4 : Nat) : Int) ((0 : Nat) : Int) = [1, 3] := by decide +kernel
  have hs : siblingI 2 4 = (0, 0) := by decide +kernel
  rw [hp] at ho
  have hI := ho.ints (by simp)
  have hl : s.len = 2 := hI.len
  refine ⟨_, _, rfl, ?_⟩
  rw [hs, hl]
  obtain ⟨p, e1, c1⟩ := hI.get (i := 0) (by omega) (by omega)
  obtain ⟨q, e2, c2⟩ := hI.get (i := 1) (by omega) (by omega)
  refine cond_t rfl (cond_t rfl (cond_t rfl (cond_t rfl ⟨by omega, by omega, p, e1, _, c1, cond_t rfl ⟨by omega, by omega, q, e2, _, c2, rfl, hb⟩⟩)))

/-! of any two leaves -/

theorem shl4 {k : Int} (h0 : 0 ≤ k) (h : k < 4) : ∃ m : Nat, IntKind.i64.wrap (1 * 2 ^ (min k.toNat IntKind.i64.bits)) = m ∧ m ∈ [1, 2, 4, 8] := by
  obtain ⟨n, rfl⟩ : ∃ n : Nat, k = n := ⟨k.toNat, by omega⟩
  have : ∀ n ∈ List.range 4, ∃ m ∈ [1, 2, 4, 8], IntKind.i64.wrap (1 * 2 ^ (min (((n : Nat) : Int)).toNat IntKind.i64.bits)) = ((m : Nat) : Int) := by decide +kernel
  obtain ⟨m, hm, he⟩ := this n (by simp; omega)
  exact ⟨m, he, hm⟩

theorem u64_range (k : Int) : 0 ≤ IntKind.u64.wrap k := by rw [IntKind.wrap_u64]; omega

theorem mod4 (k : Int) : 0 ≤ Int.tmod (IntKind.u64.wrap k) 4 ∧ Int.tmod (IntKind.u64.wrap k) 4 < 4 := by
  rw [tmod_nn (u64_range k)]; omega

theorem leaf_of (i : Int) {m : Nat} (h : 0 < m) (h8 : m ≤ 100) : ∃ j : Nat, IntKind.i64.wrap (Int.tmod (IntKind.u64.wrap i) (m : Int)) = j ∧ j < m := by
  rw [tmod_nn (u64_range i)]
  refine ⟨(IntKind.u64.wrap i % (m : Int)).toNat, ?_, ?_⟩
  · have h1 := Int.emod_nonneg (IntKind.u64.wrap i) (show (m : Int) ≠ 0 by omega)
    have h2 := Int.emod_lt_of_pos (IntKind.u64.wrap i) (show (0 : Int) < m by omega)
    rw [w64 (by omega)]; omega
  · have h2 := Int.emod_lt_of_pos (IntKind.u64.wrap i) (show (0 : Int) < m by omega)
    omega

def metAt (n i j x : Nat) : Bool := (i == j) || ((List.range x).any fun y => (pathI n i)[y]?.getD 0 == (pathI n j)[y]?.getD 0)
def sharedOk (n i j : Nat) : Bool :=
  decide ((pathI n i).length = (pathI n j).length) && (decide (n > 1) || (i == j)) && (!(decide (n > 1)) || metAt n i j (pathI n i).length) &&
  (List.range (pathI n i).length).all fun x =>
    let p := (pathI n i)[x]?.getD 0
    let q := (pathI n j)[x]?.getD 0
    (!metAt n i j x || (p == q)) && ((p == q) == (hasI p j && hasI q i)) && (hasI p j == hasI q i)
theorem shared_fact : ∀ n ∈ [1, 2, 4, 8], ∀ i ∈ List.range n, ∀ j ∈ List.range n, sharedOk n i j = true := by decide +kernel

theorem met_zero (n i j : Nat) : metAt n i j 0 = (i == j) := by simp [metAt]
theorem met_succ (n i j x : Nat) : metAt n i j (x + 1) = (metAt n i j x || ((pathI n i)[x]?.getD 0 == (pathI n j)[x]?.getD 0)) := by
  simp [metAt, List.range_succ, Bool.or_assoc]

theorem shared15_spec {w : World} (ht : Tab w) (k i j : Int) : CallsV Tryd.prog n_trystlaw15_NodesShared #[.int .i64 k, .int .i64 i, .int .i64 j] w fun v w' => v = .bool true ∧ Below w.heap.size w w' := by
  refine trystlaw15_NodesShared.lift ?_
  unfold trystlaw15_NodesShared.main
  obtain ⟨k0, k4⟩ := mod4 k
  refine ⟨by decide, k0, ?_⟩
  obtain ⟨n, hn, hmem⟩ := shl4 k0 k4
  rw [hn]
  intro n7
  have hn8 : 1 ≤ n ∧ n ≤ 8 := by simp at hmem; omega
  have e1 : IntKind.u64.wrap n7 = (n : Int) := u64_small (n := (n : Int)) (by omega)
  rw [e1]
  refine ⟨by omega, by omega, ?_⟩
  obtain ⟨a, ha, hia⟩ := leaf_of i (m := n) (by omega) (by omega)
  obtain ⟨b, hb, hib⟩ := leaf_of j (m := n) (by omega) (by omega)
  rw [ha, hb]
  intro i1 j1
  refine (path_spec (ht.same (Same.drew w)) hmem hia).mono ?_
  rintro _ w1 ⟨p, rfl, hop, hb1⟩
  refine ⟨_, _, _, _, rfl, ?_⟩
  have hB1 : Below w.heap.size w w1 := ((Same.drew w).below _).trans hb1
  refine (path_spec (ht.below hB1) hmem hib).mono ?_
  rintro _ w2 ⟨q, rfl, hoq, hb2⟩
  refine ⟨_, _, _, _, rfl, ?_⟩
  have hB2 : Below w.heap.size w w2 := hB1.then hb2
  have hP := path_len n hmem a (by simpa using hia)
  have hQ := path_len n hmem b (by simpa using hib)
  have hIp := (hop.ints (by omega)).keep hb2
  have hIq := hoq.ints (by omega)
  have fact := shared_fact n hmem a (by simpa using hia) b (by simpa using hib)
  simp only [sharedOk, Bool.and_eq_true, decide_eq_true_eq] at fact
  obtain ⟨⟨⟨f1, f2⟩, f3⟩, f4⟩ := fact
  have hpl := hIp.len
  have hql := hIq.len
  refine cond_n (fun h => absurd rfl h) fun _ => cond_n (fun h => absurd rfl h) fun _ => cond_n (fun h => absurd (by rw [hpl, hql, f1]) h) fun _ => ?_
  unfold trystlaw15_NodesShared.c5 trystlaw15_NodesShared.l2
  have hij : ((a : Int) == (b : Int)) = metAt n a b 0 := by
    rw [met_zero]
    by_cases h : a = b
    · subst h; simp
    · rw [beq_eq_false_iff_ne.2 (by omega), beq_eq_false_iff_ne.2 h]
  refine ⟨fun s w' => ∃ x : Nat, x ≤ (pathI n a).length ∧ s = (metAt n a b x, (x : Int)) ∧ Same w2 w', fun s w' => 10 - s.2.toNat, ⟨0, by omega, by show (((a : Int) == (b : Int)), (0 : Int)) = _; rw [hij]; rfl, Same.refl _⟩, ?_⟩
  rintro _ w3 ⟨x, hx, rfl, hs⟩
  dsimp only
  unfold trystlaw15_NodesShared.b2
  have hIp := hIp.same hs
  have hIq := hIq.same hs
  have ht2 : Tab w2 := ht.below hB2
  refine cond_d (fun hlt => ?_) fun hge => ?_
  · have hlt' : x < (pathI n a).length := by have : (x : Int) < (p.len : Int) := hlt; omega
    obtain ⟨f5, f7⟩ : _ ∧ _ := by simpa only [Bool.and_eq_true] using List.all_eq_true.1 f4 x (by simpa using hlt')
    obtain ⟨f5, f6⟩ := f5
    obtain ⟨pa, ea, ca⟩ := hIp.get (i := (x : Int)) (by omega) (by omega)
    obtain ⟨qa, eb, cb⟩ := hIq.get (i := (x : Int)) (by omega) (by omega)
    rw [Int.toNat_natCast] at ca cb
    generalize hpv : (pathI n a)[x]?.getD 0 = pv at *
    generalize hqv : (pathI n b)[x]?.getD 0 = qv at *
    have inner : ∀ w4, Same w2 w4 → trystlaw15_NodesShared.c3 (fun v w' => v = .bool true ∧ Below w.heap.size w w')
        (fun i1' j2' n7' p8' q10' met12' x13' w' => (i1' = i1 ∧ j2' = j1 ∧ n7' = n7 ∧ p8' = ⟨p.a, p.len, p.cap⟩ ∧ q10' = ⟨q.a, q.len, q.cap⟩ ∧ ∃ x : Nat, x ≤ (pathI n a).length ∧ (met12', x13') = (metAt n a b x, (x : Int)) ∧ Same w2 w') ∧ 10 - x13'.toNat < 10 - (x : Int).toNat)
        i1 j1 n7 ⟨p.a, p.len, p.cap⟩ ⟨q.a, q.len, q.cap⟩ (metAt n a b (x + 1)) (x : Int) w4 := by
      intro w4 hs4
      unfold trystlaw15_NodesShared.c3
      refine ⟨fun w' => Same w2 w', hs4.drew', ?_⟩
      have rp : ∀ w', Same w2 w' → w'.cell? (pa.add ((x : Int)).toNat) = some (.int .i64 pv) := fun w' h => by
        rw [Int.toNat_natCast, ← ca, h.cell, hs.cell]
      have rq : ∀ w', Same w2 w' → w'.cell? (qa.add ((x : Int)).toNat) = some (.int .i64 qv) := fun w' h => by
        rw [Int.toNat_natCast, ← cb, h.cell, hs.cell]
      have stop : ∀ b' : Bool, b' = hasI pv b → ∀ c' : Bool, c' = hasI qv a → (!(b' == c')) = false := by
        rintro _ rfl _ rfl; rw [f7]; rfl
      refine ⟨by omega, hlt, pa, ea, _, rp, by omega, by show (x : Int) < (q.len : Int); omega, qa, eb, _, rq, by omega, hlt, pa, ea, _, rp, ?_⟩
      refine (has_spec (ht2.same hs4.drew') pv b).mono ?_
      rintro _ _ ⟨rfl, rfl⟩
      have next : ∀ w5, Same w2 w5 → (let x13_25 : Int := IntKind.i64.wrap ((x : Int) + 1);
          ((i1 = i1 ∧ j1 = j1 ∧ n7 = n7 ∧ (⟨p.a, p.len, p.cap⟩ : Sl) = ⟨p.a, p.len, p.cap⟩ ∧ (⟨q.a, q.len, q.cap⟩ : Sl) = ⟨q.a, q.len, q.cap⟩ ∧ ∃ y : Nat, y ≤ (pathI n a).length ∧ (metAt n a b (x + 1), x13_25) = (metAt n a b y, (y : Int)) ∧ Same w2 w5) ∧ 10 - x13_25.toNat < 10 - (x : Int).toNat)) := by
        intro w5 hs5
        rw [inc (by omega)]
        exact ⟨⟨rfl, rfl, rfl, rfl, rfl, x + 1, hlt', rfl, hs5⟩, by (try dsimp only); omega⟩
      refine ⟨_, rfl, hs4.drew', cond_c (fun hh => ?_) fun hh => ?_⟩
      · refine ⟨by omega, by show (x : Int) < (q.len : Int); omega, qa, eb, _, rq, ?_⟩
        refine (has_spec (ht2.same hs4.drew') qv a).mono ?_
        rintro _ _ ⟨rfl, rfl⟩
        refine ⟨_, rfl, hs4.drew', cond_f' (by rw [hh] at f6; simp only [Bool.true_and] at f6; rw [f6]; rfl) ?_⟩
        refine ⟨by omega, hlt, pa, ea, _, rp, by omega, by show (x : Int) < (q.len : Int); omega, qa, eb, _, rq, ?_⟩
        refine (has_spec (ht2.same hs4.drew') pv b).mono ?_
        rintro _ _ ⟨rfl, rfl⟩
        refine ⟨_, rfl, hs4.drew', ?_⟩
        refine (has_spec (ht2.same hs4.drew') qv a).mono ?_
        rintro _ _ ⟨rfl, rfl⟩
        exact ⟨_, rfl, hs4.drew', cond_f' (stop _ rfl _ rfl) (next _ hs4.drew')⟩
      · refine cond_f' (by rw [hh] at f6; simp only [Bool.false_and] at f6; rw [f6]; rfl) ?_
        refine ⟨by omega, hlt, pa, ea, _, rp, by omega, by show (x : Int) < (q.len : Int); omega, qa, eb, _, rq, ?_⟩
        refine (has_spec (ht2.same hs4.drew') pv b).mono ?_
        rintro _ _ ⟨rfl, rfl⟩
        refine ⟨_, rfl, hs4.drew', ?_⟩
        refine (has_spec (ht2.same hs4.drew') qv a).mono ?_
        rintro _ _ ⟨rfl, rfl⟩
        exact ⟨_, rfl, hs4.drew', cond_f' (stop _ rfl _ rfl) (next _ hs4.drew')⟩
    have step : ∀ w4, Same w2 w4 → trystlaw15_NodesShared.c4 (fun v w' => v = .bool true ∧ Below w.heap.size w w')
        (fun i1' j2' n7' p8' q10' met12' x13' w' => (i1' = i1 ∧ j2' = j1 ∧ n7' = n7 ∧ p8' = ⟨p.a, p.len, p.cap⟩ ∧ q10' = ⟨q.a, q.len, q.cap⟩ ∧ ∃ x : Nat, x ≤ (pathI n a).length ∧ (met12', x13') = (metAt n a b x, (x : Int)) ∧ Same w2 w') ∧ 10 - x13'.toNat < 10 - (x : Int).toNat)
        i1 j1 n7 ⟨p.a, p.len, p.cap⟩ ⟨q.a, q.len, q.cap⟩ (metAt n a b x) (x : Int) w4 := by
      intro w4 hs4
      unfold trystlaw15_NodesShared.c4
      have hsucc := met_succ n a b x
      rw [hpv, hqv] at hsucc
      refine cond_c (fun hm => ?_) fun hm => ?_
      · have := inner w4.drew hs4.drew'
        rw [hsucc, hm] at this
        exact this
      · refine ⟨by omega, hlt, pa, ea, pv, by rw [Int.toNat_natCast, ← ca, hs4.cell, hs.cell], by omega, by show (x : Int) < (q.len : Int); omega, qa, eb, qv, by rw [Int.toNat_natCast, ← cb, hs4.cell, hs.cell], ?_⟩
        have := inner w4.drew hs4.drew'
        rw [hsucc, hm, Bool.false_or] at this
        exact this
    refine cond_c (fun hm => ?_) fun hm => step _ hs.drew'
    refine ⟨by omega, hlt, pa, ea, _, by rw [Int.toNat_natCast]; exact ca, by omega, by show (x : Int) < (q.len : Int); omega, qa, eb, _, by rw [Int.toNat_natCast]; exact cb, ?_⟩
    refine cond_n (fun hne => ?_) fun _ => step _ hs.drew'
    rw [hm] at f5
    simp at f5
    exact absurd f5 hne
  · have hxe : x = (pathI n a).length := by have : ¬ (x : Int) < (p.len : Int) := hge; omega
    subst hxe
    unfold trystlaw15_NodesShared.c1
    have fin : CallsV Tryd.prog n_trystlaw15_wakes #[] w3 fun v_1 w1 => ∃ b_2 : Bool, v_1 = .bool b_2 ∧ ((Value.bool b_2) = .bool true ∧ Below w.heap.size w w1) := by
      refine (wakes15_spec (ht2.same hs)).mono ?_
      rintro _ w5 ⟨rfl, hb5⟩
      exact ⟨_, rfl, rfl, (hB2.trans (hs.below _)).then hb5⟩
    refine cond_d (fun h1 => ?_) fun h1 => ?_
    · refine cond_t ?_ fin
      have h1' : n > 1 := by have : (n : Int) > 1 := h1; omega
      simp [h1'] at f3
      rw [f3]; rfl
    · refine cond_t ?_ fin
      have h1' : ¬ n > 1 := by intro h; apply h1; show (n : Int) > 1; omega
      have h1e : n = 1 := by omega
      subst h1e
      have ha0 : a = 0 := by omega
      have hb0 : b = 0 := by omega
      subst ha0 hb0
      rfl

end Go.Proofs.YtnnpkjhpeefnbaaDoor
