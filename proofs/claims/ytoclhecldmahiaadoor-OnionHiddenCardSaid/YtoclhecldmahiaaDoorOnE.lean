/-
  Whoever sees an onion, all that is within it on the way, and all that comes back, but lacks one server's secret, knows neither the payload, which only that server's layer hides, nor the answer.
-/
import Derived.Test.YtoclhecldmahiaaDoorOnA
set_option linter.unusedVariables false
set_option linter.unusedVariables false
set_option linter.unusedSimpArgs false
namespace Go.Proofs.YtoclhecldmahiaaDoor
open Go.Lf Go.RowKit

/-- does a set of terms keep itself away? -/
def okBad (T : List Tm) (bad : Nat → Bool) : Bool := (List.range T.length).all fun i =>
  (!bad i || kd T i == 1 || (ar T i).any bad) && (bad i || kd T i != 9 || !(ar T i).any bad) && (bad i || kd T i != 8 || !((ar T i).drop 1).any bad) &&
  (bad i || kd T i != 6 || bad (a0 T i) || !((ar T i).drop 1).any bad) &&
  (bad i || kd T i != 7 || (bad (a1 T i) && (kd T (a0 T i) != 5 || bad (a0 T (a0 T i)))) || !((ar T i).drop 2).any bad)

theorem Kn.avoidB {T : List Tm} {bad : Nat → Bool} (h : okBad T bad = true) {S : Nat → Prop} (h0 : ∀ i, S i → bad i = false) : ∀ i, Kn T S i → bad i = false := by
  unfold okBad at h
  rw [List.all_eq_true] at h
  have any : ∀ {l : List Nat} {x : Nat}, (!l.any bad) = true → x ∈ l → bad x = false := by
    intro l x hl hx
    simp only [Bool.not_eq_true', List.any_eq_false] at hl
    have := hl x hx
    simpa using this
  have key : ∀ i, Kn T S i → ¬ (bad i = true) := by
    refine Kn.avoid (fun i => bad i = true) (fun i hi => by rw [h0 i hi]; decide) (fun i hi hb => ?_) (fun i hb h9 x hx => ?_) (fun i hb h8 x hx => ?_) (fun i hb h6 hk x hx => ?_) (fun i hb h7 hk x hx => ?_)
    · have := h i (List.mem_range.2 hi)
      simp only [Bool.and_eq_true, Bool.or_eq_true] at this
      rcases this.1.1.1.1 with (h1 | h1) | h1
      · rw [hb] at h1; cases h1
      · exact .inl (by simpa using h1)
      · obtain ⟨x, hx, hbx⟩ := List.any_eq_true.1 h1
        exact .inr ⟨x, hx, hbx⟩
    all_goals
      have hi : i < T.length := by
        rcases Nat.lt_or_ge i T.length with hi | hi
        · exact hi
        · exfalso
          first
            | (rw [kd_out hi] at h9; exact absurd h9 (by decide))
            | (rw [kd_out hi] at h8; exact absurd h8 (by decide))
            | (rw [kd_out hi] at h6; exact absurd h6 (by decide))
            | (rw [kd_out hi] at h7; exact absurd h7 (by decide))
      have := h i (List.mem_range.2 hi)
      simp only [Bool.and_eq_true, Bool.or_eq_true] at this
    · rcases this.1.1.1.2 with (h1 | h1) | h1
      · exact absurd h1 hb
      · rw [h9] at h1; exact absurd h1 (by decide)
      · rw [any h1 hx]; decide
    · rcases this.1.1.2 with (h1 | h1) | h1
      · exact absurd h1 hb
      · rw [h8] at h1; exact absurd h1 (by decide)
      · rw [any h1 hx]; decide
    · rcases this.1.2 with ((h1 | h1) | h1) | h1
      · exact absurd h1 hb
      · rw [h6] at h1; exact absurd h1 (by decide)
      · exact absurd h1 hk
      · rw [any h1 hx]; decide
    · rcases this.2 with ((h1 | h1) | h1) | h1
      · exact absurd h1 hb
      · rw [h7] at h1; exact absurd h1 (by decide)
      · rcases hk with hk | ⟨hk, hk2⟩
        · exact absurd h1.1 hk
        · rcases h1.2 with h2 | h2
          · rw [hk] at h2; exact absurd h2 (by decide)
          · exact absurd h2 hk2
      · rw [any h1 hx]; decide
  intro i hi
  have := key i hi
  cases hb : bad i with
  | false => rfl
  | true => exact absurd hb this

/-! the arena of this law -/

def hidT : List Tm := [⟨1, 100, []⟩, ⟨5, 0, [0]⟩, ⟨1, 101, []⟩, ⟨5, 0, [2]⟩, ⟨1, 102, []⟩, ⟨5, 0, [4]⟩, ⟨1, 200, []⟩, ⟨1, 300, []⟩, ⟨1, 400, []⟩,
  ⟨4, 50, [6]⟩, ⟨4, 51, [6]⟩, ⟨4, 52, [6]⟩, ⟨4, 62, [6]⟩, ⟨7, 0, [5, 12, 7, 11]⟩, ⟨4, 61, [6]⟩, ⟨7, 0, [3, 14, 13, 10]⟩, ⟨4, 60, [6]⟩, ⟨7, 0, [1, 16, 15, 9]⟩,
  ⟨6, 0, [11, 8]⟩, ⟨6, 0, [10, 18]⟩, ⟨6, 0, [9, 19]⟩]

theorem hid_put {i : Nat} (hi : i < 3) : put (hidT.take (2 * i)) ⟨1, ((100 + i : Nat) : Int), []⟩ = (hidT.take (2 * i + 1), ((2 * i : Nat) : Int), 0) ∧ put (hidT.take (2 * i + 1)) ⟨5, 0, [((2 * i : Nat) : Int)]⟩ = (hidT.take (2 * (i + 1)), ((2 * i + 1 : Nat) : Int), 0) := by
  have : i = 0 ∨ i = 1 ∨ i = 2 := by omega
  rcases this with rfl | rfl | rfl <;> exact ⟨by decide +kernel, by decide +kernel⟩
theorem hid_d : put (hidT.take 6) ⟨1, 200, []⟩ = (hidT.take 7, 6, 0) := by decide +kernel
theorem hid_p : put (hidT.take 7) ⟨1, 300, []⟩ = (hidT.take 8, 7, 0) := by decide +kernel
theorem hid_r : put (hidT.take 8) ⟨1, 400, []⟩ = (hidT.take 9, 8, 0) := by decide +kernel
theorem hid_wrap : wrapR (hidT.take 9) [1, 3, 5] 6 7 = (hidT.take 18, 17, [9, 10, 11], 0) := by decide +kernel
theorem hid_back {m : Nat} (hm : m < 3) : put (backS (hidT.take 18) [9, 10, 11] 8 m).1 ⟨6, 0, [([9, 10, 11] : List Int)[2 - m]?.getD 0, (backS (hidT.take 18) [9, 10, 11] 8 m).2]⟩ = ((backS (hidT.take 18) [9, 10, 11] 8 (m + 1)).1, (backS (hidT.take 18) [9, 10, 11] 8 (m + 1)).2, 0) := by
  have : m = 0 ∨ m = 1 ∨ m = 2 := by omega
  rcases this with rfl | rfl | rfl <;> decide +kernel
theorem hid_backs : backS (hidT.take 18) [9, 10, 11] 8 3 = (hidT, 20) := by decide +kernel
theorem hid_peel : peelT hidT 0 17 = (15, 9, 0) := by decide +kernel

/-- what is kept away where a server's secret is not told -/
def badOf (m : Nat) (i : Nat) : Bool := if m = 0 then [6, 12, 14, 16, 0, 15, 13, 7, 9, 10, 11, 19, 18, 8].contains i else if m = 1 then [6, 12, 14, 16, 2, 13, 7, 10, 11, 18, 8].contains i else if m = 2 then [6, 12, 14, 16, 4, 7, 11, 8].contains i else [6, 12, 14, 16].contains i
theorem badOk : ∀ m, m < 4 → okBad hidT (badOf m) = true := by decide +kernel

theorem kd_hid {i : Nat} {k : Int} (h : (hidT[i]?).map (·.kind) = some k) : kd hidT i = k := by
  cases ht : hidT[i]? with
  | none => rw [ht] at h; cases h
  | some t => rw [ht] at h; rw [kd_of ht]; exact Option.some.inj h

/-- what is told -/
def toldI (bs : List Bool) (i : Nat) : List Nat := ((List.range i).filter fun j => bs[j]?.getD false).map fun j => 2 * j
theorem told_succ (bs : List Bool) (i : Nat) : toldI bs (i + 1) = if bs[i]?.getD false = true then toldI bs i ++ [2 * i] else toldI bs i := by
  unfold toldI
  rw [List.range_succ, List.filter_append, List.map_append]
  split
  · rename_i h; rw [List.filter_cons_of_pos (by simpa using h)]; rfl
  · rename_i h; rw [List.filter_cons_of_neg (by simpa using h)]; simp
theorem told_mem {bs : List Bool} {i k : Nat} : k ∈ toldI bs i ↔ ∃ j, j < i ∧ bs[j]?.getD false = true ∧ k = 2 * j := by
  unfold toldI
  simp only [List.mem_map, List.mem_filter, List.mem_range]
  constructor
  · rintro ⟨j, ⟨h1, h2⟩, rfl⟩; exact ⟨j, h1, h2, rfl⟩
  · rintro ⟨j, h1, h2, rfl⟩; exact ⟨j, ⟨h1, h2⟩, rfl⟩
def allI (bs : List Bool) (i : Nat) : Bool := (List.range i).all fun j => bs[j]?.getD false
theorem all_succ (bs : List Bool) (i : Nat) : allI bs (i + 1) = (allI bs i && bs[i]?.getD false) := by
  unfold allI; rw [List.range_succ, List.all_append]; simp
theorem all_true {bs : List Bool} {i : Nat} : allI bs i = true ↔ ∀ j, j < i → bs[j]?.getD false = true := by
  unfold allI; rw [List.all_eq_true]; simp

theorem hidden_law (bs : List Bool) (S : Nat → Prop) (hS : ∀ i, S i ↔ i ∈ toldI bs 3 ∨ i = 17 ∨ i = 20) :
    ¬ Kn hidT S 6 ∧ (Kn hidT S 7 ↔ allI bs 3 = true) ∧ (Kn hidT S 8 ↔ allI bs 3 = true) ∧ (Kn hidT S 15 ↔ bs[0]?.getD false = true) := by
  have told : ∀ j, j < 3 → bs[j]?.getD false = true → Kn hidT S (2 * j) := fun j hj hb => .start ((hS _).2 (.inl (told_mem.2 ⟨j, hj, hb, rfl⟩)))
  have s17 : Kn hidT S 17 := .start ((hS _).2 (.inr (.inl rfl)))
  have s20 : Kn hidT S 20 := .start ((hS _).2 (.inr (.inr rfl)))
  have miss : ∀ m, m < 3 → bs[m]?.getD false ≠ true → ∀ i, Kn hidT S i → badOf m i = false := by
    intro m hm hb
    refine Kn.avoidB (badOk m (by omega)) fun i hi => ?_
    rcases (hS i).1 hi with hi | rfl | rfl
    · obtain ⟨j, hj, hbj, rfl⟩ := told_mem.1 hi
      have hne : j ≠ m := fun e => hb (e ▸ hbj)
      have h1 : m = 0 ∨ m = 1 ∨ m = 2 := by omega
      have h2 : j = 0 ∨ j = 1 ∨ j = 2 := by omega
      rcases h1 with rfl | rfl | rfl <;> rcases h2 with rfl | rfl | rfl <;> first | (exact absurd rfl hne) | decide
    · have h1 : m = 0 ∨ m = 1 ∨ m = 2 := by omega
      rcases h1 with rfl | rfl | rfl <;> decide
    · have h1 : m = 0 ∨ m = 1 ∨ m = 2 := by omega
      rcases h1 with rfl | rfl | rfl <;> decide
  have bad3 : ∀ i, Kn hidT S i → badOf 3 i = false := by
    refine Kn.avoidB (badOk 3 (by omega)) fun i hi => ?_
    rcases (hS i).1 hi with hi | rfl | rfl
    · obtain ⟨j, hj, hbj, rfl⟩ := told_mem.1 hi
      have h2 : j = 0 ∨ j = 1 ∨ j = 2 := by omega
      rcases h2 with rfl | rfl | rfl <;> decide
    · decide
    · decide
  have open17 : bs[0]?.getD false = true → Kn hidT S 15 ∧ Kn hidT S 9 := fun h =>
    ⟨.box2 s17 (by decide +kernel) (by decide +kernel) (told 0 (by omega) h) (by decide +kernel), .box2 s17 (by decide +kernel) (by decide +kernel) (told 0 (by omega) h) (by decide +kernel)⟩
  have notall : allI bs 3 ≠ true → ∃ m, m < 3 ∧ bs[m]?.getD false ≠ true := fun h =>
    Classical.byContradiction fun hn => h (all_true.2 fun j hj => Classical.byContradiction fun hb => hn ⟨j, hj, hb⟩)
  have allk : allI bs 3 = true → Kn hidT S 7 ∧ Kn hidT S 8 := by
    intro h
    have h := all_true.1 h
    obtain ⟨k15, k9⟩ := open17 (h 0 (by omega))
    have k13 : Kn hidT S 13 := .box2 k15 (by decide +kernel) (by decide +kernel) (told 1 (by omega) (h 1 (by omega))) (by decide +kernel)
    have k10 : Kn hidT S 10 := .box2 k15 (by decide +kernel) (by decide +kernel) (told 1 (by omega) (h 1 (by omega))) (by decide +kernel)
    have k7 : Kn hidT S 7 := .box2 k13 (by decide +kernel) (by decide +kernel) (told 2 (by omega) (h 2 (by omega))) (by decide +kernel)
    have k11 : Kn hidT S 11 := .box2 k13 (by decide +kernel) (by decide +kernel) (told 2 (by omega) (h 2 (by omega))) (by decide +kernel)
    have k19 : Kn hidT S 19 := .lock s20 (by decide +kernel) k9 (by decide +kernel)
    have k18 : Kn hidT S 18 := .lock k19 (by decide +kernel) k10 (by decide +kernel)
    exact ⟨k7, .lock k18 (by decide +kernel) k11 (by decide +kernel)⟩
  refine ⟨fun h => absurd (bad3 6 h) (by decide), ⟨fun h => ?_, fun h => (allk h).1⟩, ⟨fun h => ?_, fun h => (allk h).2⟩, ⟨fun h => ?_, fun h => (open17 h).1⟩⟩
  · refine Classical.byContradiction fun hn => ?_
    obtain ⟨m, hm, hb⟩ := notall hn
    have h2 := miss m hm hb 7 h
    have h1 : m = 0 ∨ m = 1 ∨ m = 2 := by omega
    rcases h1 with rfl | rfl | rfl <;> exact absurd h2 (by decide)
  · refine Classical.byContradiction fun hn => ?_
    obtain ⟨m, hm, hb⟩ := notall hn
    have h2 := miss m hm hb 8 h
    have h1 : m = 0 ∨ m = 1 ∨ m = 2 := by omega
    rcases h1 with rfl | rfl | rfl <;> exact absurd h2 (by decide)
  · exact Classical.byContradiction fun hn => absurd (miss 0 (by omega) hn 15 h) (by decide)

theorem beq_iff {a b : Bool} (h : a = true ↔ b = true) : (a == b) = true := by
  cases a <;> cases b <;> simp_all

set_option maxRecDepth 100000 in
theorem hidden_spec {W : World} (hT : PT W.heap.size W) {sh : Sl} {bs : List Bool} (hb : Bools W sh bs) (n : Int) :
    CallsV Tryd.prog n_trystlaw23_OnionHidden #[.int .i64 n, .slice sh.a sh.len sh.cap] W fun v w' => v = .bool true ∧ Below W.heap.size W w' := by
  refine trystlaw23_OnionHidden.lift ?_
  unfold trystlaw23_OnionHidden.main
  have hbl : sh.len = bs.length := hb.len
  refine cond_d (fun _ => ⟨rfl, Below.refl _ _⟩) fun n1 => cond_d (fun _ => ⟨rfl, Below.refl _ _⟩) fun n2 => ?_
  generalize hRR : (fun (v : Value) (w' : World) => v = .bool true ∧ Below W.heap.size W w') = RR
  unfold trystlaw23_OnionHidden.c10
  refine (new_at (At.start hT)).mono ?_
  rintro _ w1 ⟨a, rfl, h1⟩
  refine ⟨_, rfl, cond_f' rfl ?_⟩
  unfold trystlaw23_OnionHidden.l7
  let S3 : List Nat := [0, 2, 4]
  let P3 : List Nat := [1, 3, 5]
  refine ⟨fun x w' => ∃ i : Nat, x.2.2.2.2 = i ∧ i ≤ 3 ∧ x.2.2.2.1 = allI bs i ∧ At W w' [ownA x.1 (toI (S3.take i)), ownA x.2.1 (toI (P3.take i)), ownA x.2.2.1 (toI (toldI bs i)), arT a (hidT.take (2 * i))], fun x _ => 3 - x.2.2.2.2.toNat,
    ⟨0, rfl, by omega, rfl, h1.nil.nil.nil⟩, ?_⟩
  clear h1
  rintro ⟨ss, sp, st, _, _⟩ w2 ⟨i, rfl, hi, rfl, h2⟩
  show trystlaw23_OnionHidden.b7 _ _ sh (some a) ss sp st (allI bs i) (i : Int) w2
  have h2 : At W w2 [ownA ss (toI (S3.take i)), ownA sp (toI (P3.take i)), ownA st (toI (toldI bs i)), arT a (hidT.take (2 * i))] := h2
  have htl : (toldI bs i).length ≤ i := by unfold toldI; rw [List.length_map]; exact Nat.le_trans (List.length_filter_le _ _) (by simp)
  unfold trystlaw23_OnionHidden.b7
  refine cond_d (p := ((i : Nat) : Int) < 3) (fun hlt => ?_) fun hge => ?_
  · have hi3 : i < 3 := by omega
    have e7 : IntKind.i64.wrap (100 + (i : Int)) = ((100 + i : Nat) : Int) := by rw [w64 (by omega)]; omega
    obtain ⟨p1, p2⟩ := hid_put hi3
    rw [e7]
    refine (mk0 1 ((100 + i : Nat) : Int) (h2.front 3 rfl) (by omega)).mono ?_
    rintro _ w3 ⟨rfl, h3⟩
    rw [p1] at h3 ⊢
    refine ⟨_, _, rfl, ?_⟩
    intro w4
    refine (mk 5 0 [((2 * i : Nat) : Int)] h3 (by omega) (by simp)).mono ?_
    rintro _ w5 ⟨rfl, h5⟩
    rw [p2] at h5 ⊢
    refine ⟨_, _, rfl, cond_n (fun h => absurd rfl h) fun _ => cond_n (fun h => absurd rfl h) fun _ => ?_⟩
    unfold trystlaw23_OnionHidden.c9
    intro w6
    have hlS : (toI (S3.take i)).length ≤ 3 := by rw [toI_len, List.length_take]; exact Nat.min_le_right _ _
    have hlP : (toI (P3.take i)).length ≤ 3 := by rw [toI_len, List.length_take]; exact Nat.min_le_right _ _
    obtain ⟨s7, w7, hr7, h7⟩ := more_at 1 rfl h5 ((2 * i : Nat) : Int) (by omega)
    refine ⟨_, _, _, _, hr7, ?_⟩
    intro w8
    obtain ⟨s9, w9, hr9, h9⟩ := more_at 2 rfl h7 ((2 * i + 1 : Nat) : Int) (by omega)
    refine ⟨_, _, _, _, hr9, ?_⟩
    have eS : toI (S3.take i) ++ [((2 * i : Nat) : Int)] = toI (S3.take (i + 1)) := by
      have : i = 0 ∨ i = 1 ∨ i = 2 := by omega
      rcases this with rfl | rfl | rfl <;> rfl
    have eP : toI (P3.take i) ++ [((2 * i + 1 : Nat) : Int)] = toI (P3.take (i + 1)) := by
      have : i = 0 ∨ i = 1 ∨ i = 2 := by omega
      rcases this with rfl | rfl | rfl <;> rfl
    have h9 : At W w9 [arT a (hidT.take (2 * (i + 1))), ownA s7 (toI (S3.take i) ++ [((2 * i : Nat) : Int)]), ownA s9 (toI (P3.take i) ++ [((2 * i + 1 : Nat) : Int)]), ownA st (toI (toldI bs i))] := h9
    rw [eS, eP] at h9
    have h9 : At W w9 [ownA s7 (toI (S3.take (i + 1))), ownA s9 (toI (P3.take (i + 1))), ownA st (toI (toldI bs i)), arT a (hidT.take (2 * (i + 1)))] := ((h9.front 3 rfl).front 3 rfl).front 3 rfl
    have skip : bs[i]?.getD false = false → toldI bs (i + 1) = toldI bs i ∧ false = allI bs (i + 1) := fun h => ⟨by rw [told_succ, h]; rfl, by rw [all_succ, h]; simp⟩
    refine cond_d (p := ((i : Nat) : Int) < ((sh.len : Nat) : Int)) (fun hlt2 => ?_) fun hge2 => ?_
    · obtain ⟨q, hq, hc⟩ := bools_get (h9.bools hb) (i := i) (by omega)
      refine ⟨by omega, hlt2, q, hq, _, by rw [Int.toNat_natCast]; exact hc, cond_c (fun hbt => ?_) fun hbf => ?_⟩
      · unfold trystlaw23_OnionHidden.c8
        intro w10
        obtain ⟨s11, w11, hr11, h11⟩ := more_at 2 rfl h9 ((2 * i : Nat) : Int) (by rw [toI_len]; omega)
        refine ⟨_, _, _, _, hr11, ?_⟩
        dsimp only
        rw [inc (by omega)]
        refine ⟨⟨rfl, rfl, i + 1, rfl, by omega, by rw [all_succ, hbt]; simp, ?_⟩, by (try dsimp only); omega⟩
        rw [told_succ, if_pos hbt, toI_app]
        exact h11
      · dsimp only
        rw [inc (by omega)]
        obtain ⟨k1, k2⟩ := skip hbf
        exact ⟨⟨rfl, rfl, i + 1, rfl, by omega, k2, by rw [k1]; exact h9⟩, by (try dsimp only); omega⟩
    · dsimp only
      rw [inc (by omega)]
      obtain ⟨k1, k2⟩ := skip (by rw [List.getElem?_eq_none (by omega)]; rfl)
      exact ⟨⟨rfl, rfl, i + 1, rfl, by omega, k2, by rw [k1]; exact h9⟩, by (try dsimp only); omega⟩
  · have hi3 : i = 3 := by omega
    subst hi3
    unfold trystlaw23_OnionHidden.c6
    refine (mk0 1 200 (h2.front 3 rfl) (by omega)).mono ?_
    rintro _ w3 ⟨rfl, h3⟩
    rw [show hidT.take (2 * 3) = hidT.take 6 from rfl, hid_d] at h3 ⊢
    refine ⟨_, _, rfl, (mk0 1 300 h3 (by omega)).mono ?_⟩
    rintro _ w4 ⟨rfl, h4⟩
    rw [hid_p] at h4 ⊢
    refine ⟨_, _, rfl, (mk0 1 400 h4 (by omega)).mono ?_⟩
    rintro _ w5 ⟨rfl, h5⟩
    rw [hid_r] at h5 ⊢
    refine ⟨_, _, rfl, cond_n (fun h => absurd rfl h) fun _ => cond_n (fun h => absurd rfl h) fun _ => cond_n (fun h => absurd rfl h) fun _ => ?_⟩
    unfold trystlaw23_OnionHidden.c5
    have h5 : At W w5 (arT a (hidT.take 9) :: [ownA ss [0, 2, 4], ownA sp [1, 3, 5], ownA st (toI (toldI bs 3))]) := h5
    refine (wrap_at h5 (sp := sp) (pubs := [1, 3, 5]) (by simp) 6 7 (by decide) (rowsI 1 rfl (by simp))).mono ?_
    rintro _ w6 ⟨sk, rfl, h6⟩
    rw [hid_wrap] at h6 ⊢
    have h6 : At W w6 [ownA sk [9, 10, 11], arT a (hidT.take 18), ownA ss [0, 2, 4], ownA sp [1, 3, 5], ownA st (toI (toldI bs 3))] := h6
    refine ⟨_, _, _, _, _, rfl, cond_n (fun h => absurd rfl h) fun _ => ?_⟩
    have hskl : sk.len = 3 := h6.numLen 0 rfl
    have hssl : ss.len = 3 := h6.numLen 2 rfl
    unfold trystlaw23_OnionHidden.l4
    refine ⟨fun x w' => ∃ m : Nat, m ≤ 3 ∧ x.2 = 2 - (m : Int) ∧ x.1 = (backS (hidT.take 18) [9, 10, 11] 8 m).2 ∧ At W w' [ownA sk [9, 10, 11], arT a (backS (hidT.take 18) [9, 10, 11] 8 m).1, ownA ss [0, 2, 4], ownA sp [1, 3, 5], ownA st (toI (toldI bs 3))], fun x _ => (x.2 + 1).toNat, ⟨0, by omega, by simp, rfl, h6⟩, ?_⟩
    clear h6
    rintro ⟨_, _⟩ w7 ⟨m, hm, rfl, rfl, h7⟩
    show trystlaw23_OnionHidden.b4 _ _ sh (some a) ss st (allI bs 3) 6 7 8 17 sk (backS (hidT.take 18) [9, 10, 11] 8 m).2 (2 - (m : Int)) w7
    unfold trystlaw23_OnionHidden.b4
    refine cond_d (fun hge0 => ?_) fun hlt0 => ?_
    · obtain ⟨q, hq, hc⟩ := h7.num 0 rfl (i := 2 - m) (by simp; omega)
      refine ⟨by omega, by rw [hskl]; omega, q, hq, _, by rw [show ((2 : Int) - (m : Int)).toNat = 2 - m by omega]; exact hc, (back_at h7.swap _ _).mono ?_⟩
      rintro _ w8 ⟨rfl, h8⟩
      have hm3 : m < 3 := by omega
      have eK : ([9, 10, 11] : List Int)[2 - m]'(by simp; omega) = ([9, 10, 11] : List Int)[2 - m]?.getD 0 := by rw [List.getElem?_eq_getElem (by simp; omega)]; rfl
      rw [eK, hid_back hm3] at h8 ⊢
      refine ⟨_, _, rfl, cond_n (fun h => absurd rfl h) fun _ => ?_⟩
      dsimp only
      rw [w64 (n := 2 - (m : Int) - 1) (by omega)]
      exact ⟨⟨rfl, rfl, rfl, rfl, rfl, rfl, rfl, rfl, rfl, rfl, m + 1, by omega, by omega, rfl, h8.swap⟩, by (try dsimp only); omega⟩
    · have hm3 : m = 3 := by omega
      subst hm3
      rw [hid_backs] at h7 ⊢
      unfold trystlaw23_OnionHidden.c3
      have htl3 : (toldI bs 3).length ≤ 3 := htl
      refine (twin_spec (rowNow 4 rfl h7.s (by rw [toI_len]; omega)) (by rw [toI_len]; omega)).mono ?_
      rintro _ w8 ⟨s8, rfl, ho, hbel⟩
      have h8 := h7.own ho hbel
      refine ⟨_, _, _, rfl, ?_⟩
      intro w9
      obtain ⟨s10, w10, hr10, h10⟩ := moreN_at 0 rfl h8 [17, 20] (by rw [toI_len]; omega) (by simp) (by simp)
      refine ⟨_, _, _, _, hr10, ?_⟩
      have h10 : At W w10 [ownA s10 (toI (toldI bs 3) ++ [17, 20]), ownA sk [9, 10, 11], arT a hidT, ownA ss [0, 2, 4], ownA sp [1, 3, 5], ownA st (toI (toldI bs 3))] := h10
      have hin : ∀ x ∈ toI (toldI bs 3) ++ [17, 20], inT hidT x := by
        intro x hx
        rw [List.mem_append] at hx
        rcases hx with hx | hx
        · unfold toI at hx
          obtain ⟨k, hk, rfl⟩ := List.mem_map.1 hx
          obtain ⟨j, hj, _, rfl⟩ := told_mem.1 hk
          have : hidT.length = 21 := rfl
          unfold inT; omega
        · have : x = 17 ∨ x = 20 := by simpa using hx
          rcases this with rfl | rfl <;> decide
      refine (all_at (h10.front 2 rfl) (s := s10) (xs := toI (toldI bs 3) ++ [17, 20]) (by simp [toI_len]; omega) (rowsI 0 rfl (by simp [toI_len]; omega))).mono ?_
      rintro _ w11 ⟨s12, al, rfl, h11, hgood, _⟩
      obtain ⟨hal, hkn⟩ := hgood hin
      rw [if_pos hin]
      have h11 : At W w11 [boolA s12 al, arT a hidT, ownA s10 (toI (toldI bs 3) ++ [17, 20]), ownA sk [9, 10, 11], ownA ss [0, 2, 4], ownA sp [1, 3, 5], ownA st (toI (toldI bs 3))] := h11
      have hs12 : s12.len = 21 := by rw [(h11.s.rowLen 0 rfl).1, hal]; rfl
      have hal : al.length = 21 := hal
      obtain ⟨L1, L2, L3, L4⟩ := hidden_law bs (fun i => (i : Int) ∈ toI (toldI bs 3) ++ [17, 20]) (by
        intro i
        rw [List.mem_append]
        constructor
        · rintro (h | h)
          · unfold toI at h
            obtain ⟨k, hk, e⟩ := List.mem_map.1 h
            rw [← show k = i by omega]; exact .inl hk
          · have : (i : Int) = 17 ∨ (i : Int) = 20 := by simpa using h
            exact .inr (by omega)
        · rintro (h | rfl | rfl)
          · exact .inl (List.mem_map.2 ⟨i, h, rfl⟩)
          · exact .inr (by simp)
          · exact .inr (by simp))
      rw [← hkn] at L1 L2 L3 L4
      obtain ⟨q, hq, hc⟩ := h11.num 4 rfl (i := 0) (by simp)
      refine ⟨_, _, _, _, rfl, by omega, by rw [hssl]; decide, q, hq, _, hc, ?_⟩
      refine (peel_at h11.swap _ _).mono ?_
      rintro _ w13 ⟨rfl, h13⟩
      rw [show peelT hidT ([0, 2, 4] : List Int)[0] 17 = (15, 9, 0) from hid_peel]
      have h13 : At W w13 [boolA s12 al, arT a hidT, ownA s10 (toI (toldI bs 3) ++ [17, 20]), ownA sk [9, 10, 11], ownA ss [0, 2, 4], ownA sp [1, 3, 5], ownA st (toI (toldI bs 3))] := h13.swap
      refine ⟨_, _, _, rfl, cond_n (fun h => absurd rfl h) fun _ => cond_n (fun h => absurd rfl h) fun _ => ?_⟩
      obtain ⟨q6, hq6, hc6⟩ := h13.s.boolAt 0 rfl (j := 6) (by omega)
      refine ⟨by omega, by show (6 : Int) < ((s12.len : Nat) : Int); rw [hs12]; decide, q6, hq6, _, hc6, cond_c (fun h => absurd h L1) fun _ => ?_⟩
      have c1 : ∀ b, b = bs[0]?.getD false → trystlaw23_OnionHidden.c1 RR (allI bs 3) 7 8 s12 15 b w13 := by
        rintro _ rfl
        unfold trystlaw23_OnionHidden.c1
        obtain ⟨q7, hq7, hc7⟩ := h13.s.boolAt 0 rfl (j := 7) (by omega)
        obtain ⟨q8, hq8, hc8⟩ := h13.s.boolAt 0 rfl (j := 8) (by omega)
        obtain ⟨q9, hq9, hc9⟩ := h13.s.boolAt 0 rfl (j := 15) (by omega)
        refine ⟨by omega, by rw [hs12]; decide, q7, hq7, _, hc7, cond_t (beq_iff L2) ⟨by omega, by rw [hs12]; decide, q8, hq8, _, hc8, cond_t (beq_iff L3) ⟨by omega, by rw [hs12]; decide, q9, hq9, _, hc9, cond_t (beq_iff L4) ?_⟩⟩⟩
        refine (wakes23 h13).mono ?_
        rintro _ w14 ⟨rfl, h14⟩
        refine ⟨_, rfl, ?_⟩
        rw [← hRR]
        exact ⟨rfl, h14.b⟩
      unfold trystlaw23_OnionHidden.c2
      refine cond_d (fun hlt2 => ?_) fun hge2 => ?_
      · obtain ⟨q0, hq0, hc0⟩ := bools_get (h13.bools hb) (i := 0) (by omega)
        exact ⟨by omega, by omega, q0, hq0, _, hc0, c1 _ rfl⟩
      · exact c1 _ (by rw [List.getElem?_eq_none (by omega)]; rfl)

end Go.Proofs.YtoclhecldmahiaaDoor
