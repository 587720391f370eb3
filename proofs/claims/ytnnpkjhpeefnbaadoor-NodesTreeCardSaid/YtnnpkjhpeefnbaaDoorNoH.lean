/-
  Nodes: NodesExact and NodesTree: contracts.
-/
import Derived.Test.YtnnpkjhpeefnbaaDoorNoG
set_option linter.unusedVariables false
set_option linter.unusedSimpArgs false
namespace Go.Proofs.YtnnpkjhpeefnbaaDoor
open Go.Lf Go.RowKit

theorem kids_child (x : Int) : (kidsI x).2.2 = ((childI x (-1)).2 == 0) ∧ (childI x (-1)).2 = (childI x 1).2 ∧ (childI x (-1)).1 = (kidsI x).1 ∧ (childI x 1).1 = (kidsI x).2.1 ∧ ((kidsI x).2.2 = false → (childI x (-1)).2 = 1) := by
  unfold kidsI childI
  by_cases h : x < 0 ∨ 14 < x ∨ levI x = 0
  · simp [h]
  · simp only [if_neg h]
    refine ⟨rfl, by simp, ?_, ?_, by simp⟩
    · generalize (2 : Int) ^ (levI x - 1).toNat = q; omega
    · generalize (2 : Int) ^ (levI x - 1).toNat = q; omega

theorem sib_err (x n : Int) : (siblingI x n).2 = (parentI x n).2 := by
  unfold siblingI
  split
  · rename_i h; rw [h]
  · rename_i h
    rcases parentI_err x n with h1 | h1
    · exact absurd h1 h
    · rw [h1]
theorem par_err (x n : Int) (h : ((parentI x n).2 == 0) = false) : (parentI x n).2 = 1 := by
  rcases parentI_err x n with h1 | h1
  · rw [h1] at h; cases h
  · rw [h1]

theorem exact15_spec {w : World} (ht : Tab w) (x n i : Int) (hx : x ≤ 9223372036854775807) : CallsV Tryd.prog n_trystlaw15_NodesExact #[.int .i64 x, .int .i64 n, .int .i64 i] w fun v w' => v = .bool true ∧ Below w.heap.size w w' := by
  refine trystlaw15_NodesExact.lift ?_
  unfold trystlaw15_NodesExact.main
  have wk : ∀ w', Below w.heap.size w w' → CallsV Tryd.prog n_trystlaw15_wakes #[] w' fun v_1 w1 => ∃ b_2 : Bool, v_1 = .bool b_2 ∧ ((Value.bool b_2) = .bool true ∧ Below w.heap.size w w1) := by
    intro w' hb
    refine (wakes15_spec (ht.below hb)).mono ?_
    rintro _ w5 ⟨rfl, hb5⟩
    exact ⟨_, rfl, rfl, hb.then hb5⟩
  have s3 : trystlaw15_NodesExact.c3 (fun v w' => v = .bool true ∧ Below w.heap.size w w') n i w := by
    unfold trystlaw15_NodesExact.c3
    by_cases hbad : mayI n = false ∨ i < 0 ∨ n ≤ i
    · refine (path_bad hbad).mono ?_
      rintro _ _ ⟨rfl, rfl⟩
      refine ⟨_, _, _, _, rfl, ?_⟩
      have fin : trystlaw15_NodesExact.c2 (fun v w' => v = .bool true ∧ Below w.heap.size w w') 1 ⟨none, 0, 0⟩ w := by
        unfold trystlaw15_NodesExact.c2
        exact cond_t rfl (cond_t rfl (wk w (Below.refl _ _)))
      refine (ref_may_spec n w).mono ?_
      rintro _ _ ⟨rfl, rfl⟩
      refine ⟨_, rfl, cond_not (fun _ => fin) fun hm => cond_d (fun _ => fin) fun h1 => cond_d (fun _ => fin) fun h2 => ?_⟩
      exfalso
      rcases hbad with h | h | h
      · rw [hm] at h; cases h
      · exact h1 h
      · exact h2 h
    · have hm : mayI n = true := by cases hh : mayI n with
        | true => rfl
        | false => exact absurd (.inl hh) hbad
      obtain ⟨m, rfl, hmem⟩ := may_nat hm
      obtain ⟨a, rfl⟩ : ∃ a : Nat, i = a := ⟨i.toNat, by omega⟩
      have ham : a < m := by omega
      have hP := path_len m hmem a (by simpa using ham)
      refine (path_spec ht hmem ham).mono ?_
      rintro _ w1 ⟨s, rfl, ho, hb1⟩
      refine ⟨_, _, _, _, rfl, ?_⟩
      refine (ref_may_spec m w1).mono ?_
      rintro _ _ ⟨rfl, rfl⟩
      refine ⟨_, rfl, cond_not (fun h => by rw [hm] at h; cases h) fun _ => cond_d (fun h => absurd (.inr (.inl h)) hbad) fun _ => cond_d (fun h => absurd (.inr (.inr h)) hbad) fun _ => ?_⟩
      unfold trystlaw15_NodesExact.c1
      refine cond_t rfl ?_
      refine (ref_path_spec hmem ham).mono ?_
      rintro _ w2 ⟨t, rfl, ho2, hb2⟩
      refine ⟨_, _, _, rfl, ?_⟩
      refine (ints_spec ((ho.ints (by omega)).keep hb2) (ho2.ints (by omega))).mono ?_
      rintro _ w3 ⟨rfl, hs3⟩
      refine ⟨_, rfl, cond_t (by simp) ?_⟩
      exact wk w3 ((hb1.then hb2).trans (hs3.below _))
  have s4 : trystlaw15_NodesExact.c4 (fun v w' => v = .bool true ∧ Below w.heap.size w w') x n i w := by
    unfold trystlaw15_NodesExact.c4
    refine (parent_spec ht x n hx).mono ?_
    rintro _ _ ⟨rfl, rfl⟩
    refine ⟨_, _, rfl, ?_⟩
    refine (sibling_spec ht x n hx).mono ?_
    rintro _ _ ⟨rfl, rfl⟩
    refine ⟨_, _, rfl, ?_⟩
    refine (ref_parent_spec x n hx w).mono ?_
    rintro _ _ ⟨rfl, rfl⟩
    refine ⟨_, _, rfl, ?_⟩
    refine (ref_sibling_spec x n hx w).mono ?_
    rintro _ _ ⟨rfl, rfl⟩
    refine ⟨_, _, rfl, ?_⟩
    refine cond_f' (by simp) (cond_n (fun h => absurd (sib_err x n).symm h) fun _ => cond_n (fun h => absurd rfl h) fun _ => cond_n (fun h => absurd rfl h) fun _ => cond_not (fun h => ?_) fun _ => s3)
    exact cond_n (fun h' => absurd (par_err x n h) h') fun _ => s3
  have s5 : trystlaw15_NodesExact.c5 (fun v w' => v = .bool true ∧ Below w.heap.size w w') x n i w := by
    unfold trystlaw15_NodesExact.c5
    obtain ⟨k1, k2, k3, k4, k5⟩ := kids_child x
    refine (left_spec ht x).mono ?_
    rintro _ _ ⟨rfl, rfl⟩
    refine ⟨_, _, rfl, ?_⟩
    refine (right_spec ht x).mono ?_
    rintro _ _ ⟨rfl, rfl⟩
    refine ⟨_, _, rfl, ?_⟩
    refine (ref_kids_spec x hx w).mono ?_
    rintro _ _ ⟨rfl, rfl⟩
    refine ⟨_, _, _, rfl, ?_⟩
    refine cond_f' (by rw [k1]; simp) (cond_n (fun h => absurd k2 h) fun _ => cond_n (fun h => absurd k3 h) fun _ => cond_n (fun h => absurd k4 h) fun _ => cond_not (fun h => ?_) fun _ => s4)
    exact cond_n (fun h' => absurd (k5 h) h') fun _ => s4
  have s6 : ∀ level root : Int, level = levI x → root = rootI n → trystlaw15_NodesExact.c6 (fun v w' => v = .bool true ∧ Below w.heap.size w w') x n i level root w := by
    rintro _ _ rfl rfl
    unfold trystlaw15_NodesExact.c6
    refine (may_spec n w).mono ?_
    rintro _ _ ⟨rfl, rfl⟩
    refine ⟨_, rfl, ?_⟩
    refine (ref_may_spec n w).mono ?_
    rintro _ _ ⟨rfl, rfl⟩
    refine ⟨_, rfl, cond_f' (by simp) ?_⟩
    refine (levelI_spec ht hx).mono ?_
    rintro _ _ ⟨rfl, rfl⟩
    refine ⟨_, rfl, cond_n (fun h => absurd rfl h) fun _ => ?_⟩
    refine (root_spec n w).mono ?_
    rintro _ _ ⟨rfl, rfl⟩
    refine ⟨_, rfl, cond_n (fun h => absurd rfl h) fun _ => ?_⟩
    refine (has_spec ht x i).mono ?_
    rintro _ _ ⟨rfl, rfl⟩
    refine ⟨_, rfl, ?_⟩
    refine (ref_has_spec x i w).mono ?_
    rintro _ _ ⟨rfl, rfl⟩
    exact ⟨_, rfl, cond_f' (by simp) s5⟩
  have s7 : ∀ level : Int, level = levI x → trystlaw15_NodesExact.c7 (fun v w' => v = .bool true ∧ Below w.heap.size w w') x n i level 0 w := by
    intro level hl
    unfold trystlaw15_NodesExact.c7
    refine (ref_may_spec n w).mono ?_
    rintro _ _ ⟨rfl, rfl⟩
    refine ⟨_, rfl, cond_c (fun hm => ?_) fun hm => s6 _ _ hl (by rw [rootI, if_neg (by rw [hm]; simp)])⟩
    intro r
    have := mayI_cases hm
    refine s6 _ _ hl ?_
    show IntKind.i64.wrap (n - 1) = _
    rw [w64 (by omega), rootI, if_pos hm]
  refine cond_d (fun h => ?_) fun h => s7 _ (by rw [levI, if_pos (by omega)])
  refine (ref_level_spec x hx w).mono ?_
  rintro _ _ ⟨rfl, rfl⟩
  exact ⟨_, rfl, s7 _ rfl⟩

/-! the tree -/

def treeOk (n x : Nat) : Bool :=
  let p := (parentI x n).1
  let s := (siblingI x n).1
  let l := (childI p (-1)).1
  let r := (childI p 1).1
  (decide ((x : Int) = (n : Int) - 1) ||
    (decide ((parentI x n).2 = 0) && decide ((siblingI x n).2 = 0) && decide ((childI p (-1)).2 = 0) && decide ((childI p 1).2 = 0) && decide (l < p) && decide (p < r) && (decide (l = x ∧ r = s) || decide (l = s ∧ r = x)) && decide (levI p = levI x + 1) && decide (p ≤ 100)))
def leafOk (n x i : Nat) : Bool :=
  (if 0 < levI x then (hasI x i == (hasI (childI x (-1)).1 i || hasI (childI x 1).1 i)) && !(hasI (childI x (-1)).1 i && hasI (childI x 1).1 i) else hasI x i == decide ((x : Int) = 2 * i))
def pathOk (n i : Nat) : Bool :=
  let P := pathI n i
  (!(decide (1 < n)) || decide (P.length ≠ 0)) && (!(decide (n = 1)) || decide (P.length = 0)) && (decide (P.length = 0) || decide (P[P.length - 1]?.getD 0 = (n : Int) - 1)) &&
  (List.range P.length).all fun j => hasI (P[j]?.getD 0) i && decide (levI (P[j]?.getD 0) = (j : Int) + 1) && decide (P[j]?.getD 0 ≤ 100)
theorem tree_fact : ∀ n ∈ [1, 2, 4, 8], ∀ x ∈ List.range (2 * n - 1), treeOk n x = true := by decide +kernel
theorem leaf_fact : ∀ n ∈ [1, 2, 4, 8], ∀ x ∈ List.range (2 * n - 1), ∀ i ∈ List.range n, leafOk n x i = true := by decide +kernel
theorem pathp_fact : ∀ n ∈ [1, 2, 4, 8], ∀ i ∈ List.range n, pathOk n i = true := by decide +kernel
theorem ends_fact : ∀ n ∈ [1, 2, 4, 8], hasI ((n : Nat) - 1 : Int) ((n : Nat) - 1 : Int) = true ∧ hasI ((n : Nat) - 1 : Int) 0 = true := by decide +kernel

theorem tree15_spec {w : World} (ht : Tab w) (k xx : Int) : CallsV Tryd.prog n_trystlaw15_NodesTree #[.int .i64 k, .int .i64 xx] w fun v w' => v = .bool true ∧ Below w.heap.size w w' := by
  refine trystlaw15_NodesTree.lift ?_
  unfold trystlaw15_NodesTree.main
  obtain ⟨k0, k4⟩ := mod4 k
  refine ⟨by decide, k0, ?_⟩
  obtain ⟨n, hn, hmem⟩ := shl4 k0 k4
  rw [hn]
  intro n5
  have hn8 : 1 ≤ n ∧ n ≤ 8 := by simp at hmem; omega
  have e0 : n5 = (n : Int) := rfl
  clear_value n5
  subst e0
  have e1 : IntKind.u64.wrap (IntKind.i64.wrap ((IntKind.i64.wrap (2 * (n : Int))) - 1)) = ((2 * n - 1 : Nat) : Int) := by
    rw [w64 (n := 2 * (n : Int)) (by omega), w64 (by omega), u64_small (by omega)]; omega
  rw [e1]
  refine ⟨by omega, ?_⟩
  obtain ⟨x, hx, hlt⟩ := leaf_of xx (m := 2 * n - 1) (by omega) (by omega)
  rw [hx]
  intro x1
  have e2 : x1 = (x : Int) := rfl
  clear_value x1
  subst e2
  have hm : mayI n = true := by simp at hmem; rcases hmem with rfl | rfl | rfl | rfl <;> rfl
  have hr : rootI n = (n : Int) - 1 := by rw [rootI, if_pos hm]
  have wk : ∀ w', Below w.heap.size w w' → CallsV Tryd.prog n_trystlaw15_wakes #[] w' fun v_1 w1 => ∃ b_2 : Bool, v_1 = .bool b_2 ∧ ((Value.bool b_2) = .bool true ∧ Below w.heap.size w w1) := by
    intro w' hb
    refine (wakes15_spec (ht.below hb)).mono ?_
    rintro _ w5 ⟨rfl, hb5⟩
    exact ⟨_, rfl, rfl, hb.then hb5⟩
  have s7 : ∀ w0, Below w.heap.size w w0 → trystlaw15_NodesTree.c7 (fun v w' => v = .bool true ∧ Below w.heap.size w w') x n w0 := by
    intro w0 hb0
    unfold trystlaw15_NodesTree.c7 trystlaw15_NodesTree.l2
    refine ⟨fun s w' => (∃ i : Nat, s = i ∧ i ≤ n) ∧ Below w.heap.size w w', fun s _ => 20 - s.toNat, ⟨⟨0, rfl, by omega⟩, hb0⟩, ?_⟩
    rintro _ w1 ⟨⟨i, rfl, hi⟩, hb1⟩
    unfold trystlaw15_NodesTree.b2
    have ht1 := ht.below hb1
    refine cond_d (fun hin => ?_) fun hin => ?_
    · have hin' : i < n := by omega
      have lf := leaf_fact n hmem x (by simpa using hlt) i (by simpa using hin')
      have pf := pathp_fact n hmem i (by simpa using hin')
      have hP := path_len n hmem i (by simpa using hin')
      unfold leafOk at lf
      simp only [pathOk, Bool.and_eq_true] at pf
      obtain ⟨⟨⟨pf1, pf2⟩, pf3⟩, pf4⟩ := pf
      have s6 : trystlaw15_NodesTree.c6 (fun v w' => v = .bool true ∧ Below w.heap.size w w') (fun x1' n5' i14' w' => (x1' = (x : Int) ∧ n5' = (n : Int) ∧ ((∃ i : Nat, i14' = i ∧ i ≤ n) ∧ Below w.heap.size w w')) ∧ 20 - i14'.toNat < 20 - (i : Int).toNat) x n i w1 := by
        unfold trystlaw15_NodesTree.c6
        refine (path_spec ht1 hmem hin').mono ?_
        rintro _ w2 ⟨p, rfl, ho, hb2⟩
        refine ⟨_, _, _, _, rfl, cond_n (fun h => absurd rfl h) fun _ => ?_⟩
        have hB2 := hb1.next hb2 (Nat.le_refl _)
        have ht2 := ht.below hB2
        have hI := ho.ints (by omega)
        have hl := hI.len
        have s5 : trystlaw15_NodesTree.c5 (fun v w' => v = .bool true ∧ Below w.heap.size w w') (fun x1' n5' i14' w' => (x1' = (x : Int) ∧ n5' = (n : Int) ∧ ((∃ i : Nat, i14' = i ∧ i ≤ n) ∧ Below w.heap.size w w')) ∧ 20 - i14'.toNat < 20 - (i : Int).toNat) x n i ⟨p.a, p.len, p.cap⟩ w2 := by
          have s4 : ∀ w3, Same w2 w3 → trystlaw15_NodesTree.c4 (fun v w' => v = .bool true ∧ Below w.heap.size w w') (fun x1' n5' i14' w' => (x1' = (x : Int) ∧ n5' = (n : Int) ∧ ((∃ i : Nat, i14' = i ∧ i ≤ n) ∧ Below w.heap.size w w')) ∧ 20 - i14'.toNat < 20 - (i : Int).toNat) x n i ⟨p.a, p.len, p.cap⟩ w3 := by
            intro w3 hs3
            unfold trystlaw15_NodesTree.c4 trystlaw15_NodesTree.l3
            refine ⟨fun s w' => (∃ j : Nat, s = j ∧ j ≤ (pathI n i).length) ∧ Same w2 w', fun s _ => 20 - s.toNat, ⟨⟨0, rfl, by omega⟩, hs3⟩, ?_⟩
            rintro _ w4 ⟨⟨j, rfl, hj⟩, hs4⟩
            unfold trystlaw15_NodesTree.b3
            refine cond_d (fun hjl => ?_) fun hjl => ?_
            · have hjl' : j < (pathI n i).length := by have : (j : Int) < (p.len : Int) := hjl; omega
              obtain ⟨⟨q1, q2⟩, q3⟩ : (_ ∧ _) ∧ _ := by simpa only [Bool.and_eq_true, decide_eq_true_eq] using List.all_eq_true.1 pf4 j (by simpa using hjl')
              obtain ⟨pa, ea, ca⟩ := hI.get (i := (j : Int)) (by omega) (by omega)
              refine ⟨by omega, hjl, pa, ea, _, by rw [hs4.cell]; exact ca, ?_⟩
              rw [Int.toNat_natCast]
              refine (has_spec (ht2.same hs4) _ i).mono ?_
              rintro _ _ ⟨rfl, rfl⟩
              refine ⟨_, rfl, cond_not (fun h => by rw [q1] at h; cases h) fun _ => ?_⟩
              refine ⟨by omega, hjl, pa, ea, _, by rw [hs4.cell]; exact ca, ?_⟩
              rw [Int.toNat_natCast]
              refine (levelI_spec (ht2.same hs4) (by omega)).mono ?_
              rintro _ _ ⟨rfl, rfl⟩
              rw [w64 (n := (j : Int) + 1) (by omega)]
              refine ⟨_, rfl, cond_n (fun h => absurd q2 h) fun _ => ?_⟩
              exact ⟨⟨rfl, rfl, rfl, rfl, ⟨j + 1, by omega, hjl'⟩, hs4⟩, by (try dsimp only); omega⟩
            · rw [w64 (n := (i : Int) + 1) (by omega)]
              exact ⟨⟨rfl, rfl, ⟨i + 1, by omega, hin'⟩, hB2.trans (hs4.below _)⟩, by (try dsimp only); omega⟩
          unfold trystlaw15_NodesTree.c5
          refine ⟨fun w' => Same w2 w', Same.drew _, cond_d (fun hpos => ?_) fun hz => s4 _ (Same.drew _)⟩
          have hpos' : 0 < (pathI n i).length := by have : (p.len : Int) > 0 := hpos; omega
          have e3 : IntKind.i64.wrap (((p.len : Nat) : Int) - 1) = (((pathI n i).length - 1 : Nat) : Int) := by rw [w64 (by omega)]; omega
          rw [e3]
          obtain ⟨pa, ea, ca⟩ := hI.get (i := (((pathI n i).length - 1 : Nat) : Int)) (by omega) (by omega)
          rw [Int.toNat_natCast] at ca
          refine ⟨by omega, by show (((pathI n i).length - 1 : Nat) : Int) < (p.len : Int); omega, pa, ea, _, fun y hy => by rw [Int.toNat_natCast, ixOff_eq, Nat.mul_one, hy.cell]; exact ca, ?_⟩
          refine (root_spec n _).mono ?_
          rintro _ _ ⟨rfl, rfl⟩
          refine ⟨_, rfl, Same.drew _, cond_n (fun h => absurd ?_ h) fun _ => s4 _ (Same.drew _)⟩
          rw [hr]
          have : ¬ (pathI n i).length = 0 := by omega
          simp only [this, decide_false, Bool.false_or, decide_eq_true_eq] at pf3
          exact pf3
        refine cond_d (fun h1 => cond_e (fun h => ?_) fun _ => cond_e (fun h => ?_) fun _ => s5) fun h1 => cond_e (fun _ => cond_d (fun h => ?_) fun _ => s5) fun _ => s5
        · exfalso
          have h1' : 1 < n := by omega
          have : (pathI n i).length = 0 := by have : (p.len : Int) = 0 := h; omega
          rw [decide_eq_true h1'] at pf1
          simp only [Bool.not_true, Bool.false_or, decide_eq_true_eq] at pf1
          exact pf1 this
        · exfalso; omega
        · exfalso
          have h1' : n = 1 := by omega
          rw [decide_eq_true h1'] at pf2
          simp only [Bool.not_true, Bool.false_or, decide_eq_true_eq] at pf2
          have : (p.len : Int) > 0 := h
          omega
      have hx1 : (x : Int) ≤ 9223372036854775807 := by omega
      refine (levelI_spec ht1 hx1).mono ?_
      rintro _ _ ⟨rfl, rfl⟩
      refine ⟨_, rfl, cond_d (fun hl0 => ?_) fun hl0 => ?_⟩
      · rw [if_pos hl0] at lf
        simp only [Bool.and_eq_true, Bool.not_eq_true'] at lf
        obtain ⟨lf1, lf2⟩ := lf
        refine (left_spec ht1 x).mono ?_
        rintro _ _ ⟨rfl, rfl⟩
        refine ⟨_, _, rfl, ?_⟩
        refine (right_spec ht1 x).mono ?_
        rintro _ _ ⟨rfl, rfl⟩
        refine ⟨_, _, rfl, ?_⟩
        refine (has_spec ht1 x i).mono ?_
        rintro _ _ ⟨rfl, rfl⟩
        refine ⟨_, rfl, ?_⟩
        refine (has_spec ht1 _ i).mono ?_
        rintro _ _ ⟨rfl, rfl⟩
        refine ⟨_, rfl, cond_c (fun hL => ?_) fun hL => ?_⟩
        · rw [hL] at lf1 lf2
          refine cond_f' (by simp at lf1; rw [lf1]; rfl) ?_
          refine (has_spec ht1 _ i).mono ?_
          rintro _ _ ⟨rfl, rfl⟩
          refine ⟨_, rfl, cond_t hL ?_⟩
          refine (has_spec ht1 _ i).mono ?_
          rintro _ _ ⟨rfl, rfl⟩
          exact ⟨_, rfl, cond_f' (by simpa using lf2) s6⟩
        · rw [hL] at lf1
          refine (has_spec ht1 _ i).mono ?_
          rintro _ _ ⟨rfl, rfl⟩
          refine ⟨_, rfl, cond_f' (by rw [Bool.false_or] at lf1; rw [lf1]; rfl) ?_⟩
          refine (has_spec ht1 _ i).mono ?_
          rintro _ _ ⟨rfl, rfl⟩
          exact ⟨_, rfl, cond_f' hL s6⟩
      · rw [if_neg hl0] at lf
        refine (has_spec ht1 x i).mono ?_
        rintro _ _ ⟨rfl, rfl⟩
        rw [w64 (n := 2 * (i : Int)) (by omega)]
        refine ⟨_, rfl, cond_f' ?_ s6⟩
        have h2 : ((x : Int) == 2 * (i : Int)) = decide ((x : Int) = 2 * i) := rfl
        rw [h2, lf]; rfl
    · unfold trystlaw15_NodesTree.c1
      obtain ⟨f1, f2⟩ := ends_fact n hmem
      refine (root_spec n w1).mono ?_
      rintro _ _ ⟨rfl, rfl⟩
      refine ⟨_, rfl, ?_⟩
      rw [hr, w64 (n := (n : Int) - 1) (by omega)]
      refine (has_spec ht1 _ _).mono ?_
      rintro _ _ ⟨rfl, rfl⟩
      refine ⟨_, rfl, cond_t f1 ?_⟩
      refine (root_spec n w1).mono ?_
      rintro _ _ ⟨rfl, rfl⟩
      refine ⟨_, rfl, ?_⟩
      rw [hr]
      refine (has_spec ht1 _ _).mono ?_
      rintro _ _ ⟨rfl, rfl⟩
      exact ⟨_, rfl, cond_t f2 (wk _ hb1)⟩
  refine (root_spec n w).mono ?_
  rintro _ _ ⟨rfl, rfl⟩
  rw [hr]
  refine ⟨_, rfl, cond_n (fun hne => ?_) fun _ => s7 _ (Below.refl _ _)⟩
  have tf := tree_fact n hmem x (by simpa using hlt)
  unfold treeOk at tf
  rw [decide_eq_false hne, Bool.false_or] at tf
  simp only [Bool.and_eq_true, decide_eq_true_eq, Bool.or_eq_true] at tf
  obtain ⟨⟨⟨⟨⟨⟨⟨⟨t1, t2⟩, t3⟩, t4⟩, t5⟩, t6⟩, t7⟩, t8⟩, t9⟩ := tf
  refine (parent_spec ht x n (by omega)).mono ?_
  rintro _ _ ⟨rfl, rfl⟩
  refine ⟨_, _, rfl, ?_⟩
  refine (sibling_spec ht x n (by omega)).mono ?_
  rintro _ _ ⟨rfl, rfl⟩
  refine ⟨_, _, rfl, ?_⟩
  refine (left_spec ht _).mono ?_
  rintro _ _ ⟨rfl, rfl⟩
  refine ⟨_, _, rfl, ?_⟩
  refine (right_spec ht _).mono ?_
  rintro _ _ ⟨rfl, rfl⟩
  refine ⟨_, _, rfl, ?_⟩
  refine cond_n (fun h => absurd t1 h) fun _ => cond_n (fun h => absurd t2 h) fun _ => cond_n (fun h => absurd t3 h) fun _ => cond_n (fun h => absurd t4 h) fun _ => cond_d (fun h => by omega) fun _ => cond_d (fun h => by omega) fun _ => ?_
  have lx := lev_small (x := (x : Int)) (by omega) (by omega)
  have fin : CallsV Tryd.prog n_nodes_Level #[.int .i64 (parentI x n).1] w (fun v_71 w26 =>
      ∃ x_72 : Int, v_71 = .int .i64 x_72 ∧
      CallsV Tryd.prog n_nodes_Level #[.int .i64 x] w26 (fun v_73 w27 =>
      ∃ x_74 : Int, v_73 = .int .i64 x_74 ∧
      cond ((x_72 : Int) != (IntKind.i64.wrap (x_74 + 1)))
      ((Value.bool false) = .bool true ∧ Below w.heap.size w w27)
      (trystlaw15_NodesTree.c7 (fun v w' => v = .bool true ∧ Below w.heap.size w w') x n w27))) := by
    refine (levelI_spec ht (by omega)).mono ?_
    rintro _ _ ⟨rfl, rfl⟩
    refine ⟨_, rfl, ?_⟩
    refine (levelI_spec ht (by omega)).mono ?_
    rintro _ _ ⟨rfl, rfl⟩
    refine ⟨_, rfl, ?_⟩
    rw [w64 (n := levI x + 1) (by omega)]
    exact cond_n (fun h => absurd t8 h) fun _ => s7 _ (Below.refl _ _)
  refine cond_e (fun h1 => cond_e (fun h2 => fin) fun h2 => cond_e (fun h3 => ?_) fun h3 => ?_) fun h1 => cond_e (fun h3 => ?_) fun h3 => ?_
  · rcases t7 with t7 | t7
    · exact absurd t7.2 h2
    · exact cond_f' (by rw [t7.2]; simp) fin
  · rcases t7 with t7 | t7
    · exact absurd t7.2 h2
    · exact absurd t7.1 h3
  · rcases t7 with t7 | t7
    · exact absurd t7.1 h1
    · exact cond_f' (by rw [t7.2]; simp) fin
  · rcases t7 with t7 | t7
    · exact absurd t7.1 h1
    · exact absurd t7.1 h3

end Go.Proofs.YtnnpkjhpeefnbaaDoor
