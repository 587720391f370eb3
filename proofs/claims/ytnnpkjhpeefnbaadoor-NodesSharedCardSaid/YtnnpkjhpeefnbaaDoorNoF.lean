/-
  Nodes: paths, of the code and of the page; the page's siblings: contracts.
-/
import Derived.Test.YtnnpkjhpeefnbaaDoorNoE
set_option linter.unusedVariables false
set_option linter.unusedSimpArgs false
namespace Go.Proofs.YtnnpkjhpeefnbaaDoor
open Go.Lf Go.RowKit

def pathL : Nat → Int → Int → List Int
  | 0, _, _ => []
  | f + 1, x, n => if x = n - 1 then [] else (parentI x n).1 :: pathL f (parentI x n).1 n
/-- the nodes above a leaf -/
def pathI (n i : Int) : List Int := pathL 4 (2 * i) n

def stepOk (n i k : Nat) : Bool :=
  let P := pathI n i
  let x := ((2 * (i : Int)) :: P)[k]?.getD 0
  decide (P.length ≤ 3) && decide (0 ≤ x) && decide (x ≤ 14) && (if k < P.length then decide (x ≠ (n : Int) - 1) && decide (parentI x n = (P[k]?.getD 0, 0)) else decide (x = (n : Int) - 1))
theorem path_fact : ∀ n ∈ [1, 2, 4, 8], ∀ i ∈ List.range n, ((List.range ((pathI (n : Nat) (i : Nat)).length + 1)).all fun k => stepOk n i k) = true := by decide +kernel
theorem path_len : ∀ n ∈ [1, 2, 4, 8], ∀ i ∈ List.range n, (pathI (n : Nat) (i : Nat)).length ≤ 3 := by decide +kernel

theorem path_step {n i k : Nat} (hn : n ∈ [1, 2, 4, 8]) (hi : i < n) (hk : k ≤ (pathI n i).length) :
    0 ≤ ((2 * (i : Int)) :: pathI n i)[k]?.getD 0 ∧ ((2 * (i : Int)) :: pathI n i)[k]?.getD 0 ≤ 14 ∧
    (k < (pathI n i).length → ((2 * (i : Int)) :: pathI n i)[k]?.getD 0 ≠ (n : Int) - 1 ∧ parentI (((2 * (i : Int)) :: pathI n i)[k]?.getD 0) n = ((pathI n i)[k]?.getD 0, 0)) ∧
    (k = (pathI n i).length → ((2 * (i : Int)) :: pathI n i)[k]?.getD 0 = (n : Int) - 1) := by
  have h := List.all_eq_true.1 (path_fact n hn i (by simpa using hi)) k (by simp; omega)
  simp only [stepOk, Bool.and_eq_true, decide_eq_true_eq] at h
  obtain ⟨⟨⟨_, h1⟩, h2⟩, h3⟩ := h
  refine ⟨h1, h2, fun hlt => ?_, fun he => ?_⟩
  · rw [if_pos hlt] at h3
    simpa using h3
  · rw [if_neg (by omega)] at h3
    simpa using h3

theorem info_int : ∃ i, Tryd.prog.info? 3 = some i ∧ i.zero = some (.int .i64 0) ∧ i.size = 1 ∧ i.bytes = 8 := ⟨Tryd.t3, by kernel_rfl, by kernel_rfl, by kernel_rfl, by kernel_rfl⟩

theorem app_int {B : Nat} {w : World} {s : Sl} {xs : List Int} (h : OwnI B 3 .i64 w s xs) (x : Int) (hm : xs.length ≤ 1000000) (hB : B ≤ w.heap.size) :
    ∃ s' : Sl, ∃ w', (builtin .append #[23, 23] 23 #[] #[.slice s.a s.len s.cap, .slice (some (newA w)) 1 1]).run Tryd.prog (w.alloc (.cells #[.int .i64 x] 3)) = .ok (.value (.slice s'.a s'.len s'.cap)) w' ∧
      OwnI B 3 .i64 w' s' (xs ++ [x]) ∧ w.grownBy w' (Value.slice s.a s.len s.cap).ownBlock ∧ Below B w w' := by
  obtain ⟨i, hi, hz, hsz, hby⟩ := info_int
  exact append_int (ty := 23) Tryd.underlying23 hi hz hsz hby rfl h (by unfold maxLen; omega) (by omega) hB

theorem take_snoc {xs : List Int} {k : Nat} (h : k < xs.length) : xs.take k ++ [xs[k]?.getD 0] = xs.take (k + 1) := by
  rw [List.take_add_one, List.getElem?_eq_getElem h]; rfl

theorem Tab.below {w w' : World} (h : Tab w) (hb : Below w.heap.size w w') : Tab w' := fun i hi => hb.here (h i hi)

theorem path_bad {w : World} {i n : Int} (h : mayI n = false ∨ i < 0 ∨ n ≤ i) :
    CallsV Tryd.prog n_nodes_Path #[.int .i64 i, .int .i64 n] w fun v w' => v = .tuple #[.slice none 0 0, .int .i64 1] ∧ w = w' := by
  refine nodes_Path.lift ?_
  unfold nodes_Path.main
  refine (may_spec n w).mono ?_
  rintro _ _ ⟨rfl, rfl⟩
  refine ⟨_, rfl, cond_not (fun _ => ⟨rfl, rfl⟩) fun hm => cond_d (fun _ => ⟨rfl, rfl⟩) fun h1 => cond_d (fun _ => ⟨rfl, rfl⟩) fun h2 => ?_⟩
  rcases h with h | h | h
  · rw [hm] at h; cases h
  · exact absurd h h1
  · exact absurd h h2

theorem path_spec {w : World} (ht : Tab w) {i n : Nat} (hn : n ∈ [1, 2, 4, 8]) (hi : i < n) :
    CallsV Tryd.prog n_nodes_Path #[.int .i64 i, .int .i64 n] w fun v w' => ∃ s : Sl, v = .tuple #[.slice s.a s.len s.cap, .int .i64 0] ∧ OwnI w.heap.size 3 .i64 w' s (pathI n i) ∧ Below w.heap.size w w' := by
  have hm : mayI n = true := by simp at hn; rcases hn with rfl | rfl | rfl | rfl <;> rfl
  have hn8 : n ≤ 8 := by simp at hn; omega
  have hP := path_len n hn i (by simpa using hi)
  refine nodes_Path.lift ?_
  unfold nodes_Path.main
  refine (may_spec n w).mono ?_
  rintro _ _ ⟨rfl, rfl⟩
  refine ⟨_, rfl, cond_not (fun h => by rw [hm] at h; cases h) fun _ => cond_d (fun h => by omega) fun _ => cond_d (fun h => by omega) fun _ => ?_⟩
  unfold nodes_Path.c2
  rw [w64 (n := 2 * (i : Int)) (by omega)]
  unfold nodes_Path.l1
  refine ⟨fun s w' => ∃ k : Nat, k ≤ (pathI n i).length ∧ s.2 = ((2 * (i : Int)) :: pathI n i)[k]?.getD 0 ∧ OwnI w.heap.size 3 .i64 w' s.1 ((pathI n i).take k) ∧ Below w.heap.size w w', fun s w' => 4 - s.1.len, ⟨0, by omega, rfl, OwnI.nil, Below.refl _ _⟩, ?_⟩
  rintro ⟨s, x⟩ w1 ⟨k, hk, hx, ho, hb⟩
  dsimp only at hx ho ⊢
  obtain ⟨x0, x14, hs1, hs2⟩ := path_step hn hi hk
  rw [← hx] at x0 x14 hs1 hs2
  have hol := ho.len
  rw [List.length_take] at hol
  unfold nodes_Path.b1
  refine (root_spec n w1).mono ?_
  rintro _ _ ⟨rfl, rfl⟩
  have hr : rootI n = (n : Int) - 1 := by rw [rootI, if_pos hm]
  rw [hr]
  refine ⟨_, rfl, cond_n (fun hne => ?_) fun he => ?_⟩
  · have hlt : k < (pathI n i).length := by
      rcases Nat.lt_or_ge k (pathI n i).length with h | h
      · exact h
      · exact absurd (hs2 (by omega)) hne
    obtain ⟨_, hp⟩ := hs1 hlt
    refine (parent_spec (ht.below hb) x n (by omega)).mono ?_
    rintro _ _ ⟨rfl, rfl⟩
    rw [hp]
    refine ⟨_, _, rfl, ?_⟩
    obtain ⟨s', w2, hrun, hown, _, hb'⟩ := app_int ho ((pathI n i)[k]?.getD 0) (by rw [List.length_take]; omega) hb.size
    rw [take_snoc hlt] at hown
    have hl' := hown.len
    rw [List.length_take] at hl'
    exact ⟨_, _, _, _, hrun, ⟨rfl, k + 1, hlt, rfl, hown, hb.trans hb'⟩, by (try dsimp only); omega⟩
  · have hke : k = (pathI n i).length := by
      rcases Nat.lt_or_ge k (pathI n i).length with h | h
      · exact absurd he (hs1 h).1
      · omega
    rw [hke, List.take_length] at ho
    exact ⟨s, rfl, ho, hb⟩

theorem ref_path_spec {w : World} {i n : Nat} (hn : n ∈ [1, 2, 4, 8]) (hi : i < n) :
    CallsV Tryd.prog n_trystref15_Path #[.int .i64 i, .int .i64 n] w fun v w' => ∃ s : Sl, v = .slice s.a s.len s.cap ∧ OwnI w.heap.size 3 .i64 w' s (pathI n i) ∧ Below w.heap.size w w' := by
  have hm : mayI n = true := by simp at hn; rcases hn with rfl | rfl | rfl | rfl <;> rfl
  have hn8 : n ≤ 8 := by simp at hn; omega
  have hP := path_len n hn i (by simpa using hi)
  refine trystref15_Path.lift ?_
  unfold trystref15_Path.main
  rw [w64 (n := 2 * (i : Int)) (by omega)]
  unfold trystref15_Path.l1
  refine ⟨fun s w' => ∃ k : Nat, k ≤ (pathI n i).length ∧ s.2 = ((2 * (i : Int)) :: pathI n i)[k]?.getD 0 ∧ OwnI w.heap.size 3 .i64 w' s.1 ((pathI n i).take k) ∧ Below w.heap.size w w', fun s w' => 4 - s.1.len, ⟨0, by omega, rfl, OwnI.nil, Below.refl _ _⟩, ?_⟩
  rintro ⟨s, x⟩ w1 ⟨k, hk, hx, ho, hb⟩
  dsimp only at hx ho ⊢
  obtain ⟨x0, x14, hs1, hs2⟩ := path_step hn hi hk
  rw [← hx] at x0 x14 hs1 hs2
  have hol := ho.len
  rw [List.length_take] at hol
  unfold trystref15_Path.b1
  refine (ref_parent_spec x n (by omega) w1).mono ?_
  rintro _ _ ⟨rfl, rfl⟩
  rcases Nat.lt_or_ge k (pathI n i).length with hlt | hge
  · obtain ⟨_, hp⟩ := hs1 hlt
    rw [hp]
    refine ⟨_, _, rfl, cond_f' rfl ?_⟩
    obtain ⟨s', w2, hrun, hown, _, hb'⟩ := app_int ho ((pathI n i)[k]?.getD 0) (by rw [List.length_take]; omega) hb.size
    rw [take_snoc hlt] at hown
    have hl' := hown.len
    rw [List.length_take] at hl'
    exact ⟨_, _, _, _, hrun, ⟨rfl, k + 1, hlt, rfl, hown, hb.trans hb'⟩, by (try dsimp only); omega⟩
  · have hke : k = (pathI n i).length := by omega
    have hp : parentI x n = (0, 1) := by rw [parentI, if_pos (.inr (.inr (.inr (hs2 hke))))]
    rw [hp]
    refine ⟨_, _, rfl, cond_t rfl ?_⟩
    rw [hke, List.take_length] at ho
    exact ⟨s, rfl, ho, hb⟩

theorem kids_sum : ∀ n ∈ [1, 2, 4, 8], ∀ x ∈ List.range (2 * n - 1), (decide ((parentI (x : Nat) (n : Nat)).2 ≠ 0) || decide ((kidsI (parentI (x : Nat) (n : Nat)).1).1 + (kidsI (parentI (x : Nat) (n : Nat)).1).2.1 = 2 * (parentI (x : Nat) (n : Nat)).1)) = true := by decide +kernel

theorem parentI_in {x n : Int} (h : (parentI x n).2 = 0) : ∃ y m : Nat, x = y ∧ n = m ∧ m ∈ [1, 2, 4, 8] ∧ y < 2 * m - 1 := by
  unfold parentI at h
  by_cases hb : mayI n = false ∨ x < 0 ∨ 2 * n - 2 < x ∨ x = n - 1
  · rw [if_pos hb] at h; simp at h
  · have hm : mayI n = true := by cases hh : mayI n with
      | true => rfl
      | false => exact absurd (.inl hh) hb
    obtain ⟨m, rfl, hmem⟩ := may_nat hm
    exact ⟨x.toNat, m, by omega, rfl, hmem, by omega⟩

theorem ref_sibling_spec (x n : Int) (hx : x ≤ 9223372036854775807) (w : World) : CallsV Tryd.prog n_trystref15_Sibling #[.int .i64 x, .int .i64 n] w fun v w' => v = .tuple #[.int .i64 (siblingI x n).1, .bool ((siblingI x n).2 == 0)] ∧ w = w' := by
  refine trystref15_Sibling.lift ?_
  unfold trystref15_Sibling.main
  refine (ref_parent_spec x n hx w).mono ?_
  rintro _ _ ⟨rfl, rfl⟩
  refine ⟨_, _, rfl, cond_not (fun h => ?_) fun h => ?_⟩
  · have : ¬ (parentI x n).2 = 0 := by simpa using h
    rw [siblingI, if_neg this]
    exact ⟨rfl, rfl⟩
  · have he : (parentI x n).2 = 0 := by simpa using h
    obtain ⟨h1, h2, h3, h4⟩ := parentI_range he
    refine (ref_kids_spec (parentI x n).1 (by omega) w).mono ?_
    rintro _ _ ⟨rfl, rfl⟩
    refine ⟨_, _, _, rfl, ?_⟩
    intro t
    rw [siblingI, if_pos he]
    have hk : (kidsI (parentI x n).1).1 + (kidsI (parentI x n).1).2.1 = 2 * (parentI x n).1 := by
      obtain ⟨y, m, rfl, rfl, hmem, hy⟩ := parentI_in he
      have := kids_sum m hmem y (by simp; omega)
      rw [decide_eq_false (not_not_intro he)] at this
      simpa using this
    have : t = 2 * (parentI x n).1 - x := by
      show IntKind.i64.wrap _ = _
      rw [hk, w64 (n := 2 * (parentI x n).1) (by omega), w64 (by omega)]
    rw [this]
    exact ⟨rfl, rfl⟩

end Go.Proofs.YtnnpkjhpeefnbaaDoor
