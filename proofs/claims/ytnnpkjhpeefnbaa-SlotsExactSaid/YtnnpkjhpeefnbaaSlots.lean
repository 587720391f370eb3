/-
  The functions of package slots, and what the three laws on turns do: contracts.
-/
import Derived.Test.YtnnpkjhpeefnbaaSlFns
import Derived.Test.YtnnpkjhpeefnbaaLiftLib
set_option linter.unusedVariables false
set_option linter.unusedSimpArgs false
namespace Go.Proofs.Ytnnpkjhpeefnbaa
open Go.Lf Go.RowKit


/-! plain -/
def riseB : List Int → Int → Bool
  | [], _ => true
  | x :: xs, l => decide (l < x) && decide (x < 8) && riseB xs x
def rightL (xs : List Int) : Bool := decide (1 ≤ xs.length) && decide (xs.length ≤ 8) && riseB xs (-1)

theorem rise_step {xs : List Int} {k : Nat} {l : Int} (h : k < xs.length) : riseB (xs.drop k) l = (decide (l < xs[k]?.getD 0) && decide (xs[k]?.getD 0 < 8) && riseB (xs.drop (k + 1)) (xs[k]?.getD 0)) := by
  rw [List.drop_eq_getElem_cons h, riseB]; simp [h]

def place (m k at_ : Nat) : Nat := if at_ = m then (if k % 2 = 0 then k / 2 else (k + m) / 2) else if (k + m - at_) % m = at_ then m else (k + m - at_) % m

def ring (n : Nat) : Nat := n + n % 2 - 1
def pv (xs : List Int) (at_ : Nat) (r : Int) : Int :=
  if xs.length ≤ place (ring xs.length) (r.toNat % ring xs.length) at_ then -1 else xs[place (ring xs.length) (r.toNat % ring xs.length) at_]?.getD 0

theorem tmod_small {a m : Int} (h1 : -m < a) (h2 : a < m) : Int.tmod a m = a := by
  by_cases h : 0 ≤ a
  · rw [Int.tmod_eq_emod_of_nonneg h]; exact Int.emod_eq_of_lt h h2
  · have e : a = -(-a) := by omega
    rw [e, Int.neg_tmod, Int.tmod_eq_emod_of_nonneg (by omega), Int.emod_eq_of_lt (by omega) (by omega)]

/-! the functions -/

theorem right_spec {w : World} {s : Sl} {xs : List Int} (h : Ints .i64 w s xs) :
    CallsV Try.prog n_slots_right #[.slice s.a s.len s.cap] w fun v w' => v = .bool (rightL xs) ∧ w = w' := by
  refine slots_right.lift ?_
  have hl := h.len
  unfold slots_right.main
  refine cond_d (fun h1 => ⟨by simp [rightL]; omega, rfl⟩) fun h1 => cond_d (fun h8 => ⟨by simp [rightL]; omega, rfl⟩) fun h8 => ?_
  unfold slots_right.c2 slots_right.l1
  refine ⟨fun st w' => w = w' ∧ ∃ k : Nat, st.2 = k ∧ k ≤ xs.length ∧ riseB (xs.drop k) st.1 = riseB xs (-1), fun st _ => xs.length - st.2.toNat, ⟨rfl, 0, rfl, Nat.zero_le _, rfl⟩, ?_⟩
  rintro ⟨last, i⟩ w' ⟨rfl, k, hk, hle, hr⟩
  dsimp only at hk hr
  subst hk
  have hR : rightL xs = riseB (xs.drop k) last := by
    rw [hr]; simp [rightL]; omega
  unfold slots_right.b1
  refine cond_d (fun hlt => ?_) fun hge => ⟨by rw [hR, List.drop_eq_nil_of_le (by omega)]; rfl, rfl⟩
  have hk' : k < xs.length := by omega
  obtain ⟨p, hp, hc⟩ := h.get (i := (k : Int)) (by omega) (by omega)
  have hs := rise_step (l := last) hk'
  refine ⟨by omega, by omega, p, hp, _, hc, ?_⟩
  rw [Int.toNat_natCast]
  refine cond_d (fun h1 => ⟨by rw [hR, hs]; simp; omega, rfl⟩) fun h1 => cond_d (fun h2 => ⟨by rw [hR, hs]; simp; omega, rfl⟩) fun h2 => ?_
  refine ⟨⟨rfl, rfl, rfl, k + 1, ?_, by omega, ?_⟩, ?_⟩
  · rw [w64 (by omega)]; omega
  · rw [← hr, hs, decide_eq_true (by omega : last < _), decide_eq_true (by omega : xs[k]?.getD 0 < 8)]; rfl
  · rw [w64 (by omega)]; dsimp only; omega

theorem index_spec {w : World} {s : Sl} {xs : List Int} (h : Ints .i64 w s xs) (x : Int) :
    CallsV Try.prog n_slices_Index_int #[.slice s.a s.len s.cap, .int .i64 x] w fun v w' =>
      (∃ r : Int, v = .int .i64 r ∧ ((r = -1 ∧ ∀ j : Nat, xs[j]? ≠ some x) ∨ ∃ k : Nat, r = k ∧ xs[k]? = some x)) ∧ w = w' := by
  refine slices_Index_int.lift ?_
  have hl := h.len
  have hsm := h.small
  unfold slices_Index_int.main slices_Index_int.l1
  refine ⟨fun st w' => w = w' ∧ ∃ k : Nat, st = k ∧ k ≤ xs.length ∧ ∀ j : Nat, j < k → xs[j]? ≠ some x, fun st _ => xs.length - st.toNat, ⟨rfl, 0, rfl, Nat.zero_le _, fun j hj => by omega⟩, ?_⟩
  rintro i w' ⟨rfl, k, rfl, hle, hr⟩
  unfold slices_Index_int.b1
  refine cond_d (fun hlt => ?_) fun hge => ⟨⟨-1, rfl, .inl ⟨rfl, fun j hj => ?_⟩⟩, rfl⟩
  · obtain ⟨p, hp, hc⟩ := h.get (i := (k : Int)) (by omega) (by omega)
    refine ⟨by omega, by omega, p, hp, _, hc, ?_⟩
    have hk' : k < xs.length := by omega
    rw [Int.toNat_natCast, List.getElem?_eq_getElem hk', Option.getD_some]
    refine cond_e (fun he => ⟨⟨k, rfl, .inr ⟨k, rfl, by rw [List.getElem?_eq_getElem hk', he]⟩⟩, rfl⟩) fun hne => ?_
    refine ⟨⟨rfl, rfl, rfl, rfl, k + 1, by rw [w64 (by omega)]; omega, by omega, fun j hj => ?_⟩, by rw [w64 (by omega)]; dsimp only; omega⟩
    by_cases hjk : j = k
    · subst hjk; rw [List.getElem?_eq_getElem hk']; intro hh; exact hne (Option.some.inj hh).symm
    · exact hr j (by omega)
  · have : j < xs.length := (List.getElem?_eq_some_iff.1 hj).1
    exact hr j (by omega) hj


theorem hf_facts : ∀ m ∈ [1, 3, 5, 7], ∀ k < m, 2 * (if k % 2 = 0 then k / 2 else (k + m) / 2) % m = k ∧ (if k % 2 = 0 then k / 2 else (k + m) / 2) < m ∧ ∀ j < (if k % 2 = 0 then k / 2 else (k + m) / 2), 2 * j % m ≠ k := by decide

theorem ring_mem {n : Nat} (h1 : 1 ≤ n) (h8 : n ≤ 8) : ring n ∈ [1, 3, 5, 7] := by
  have : ∀ n ≤ 8, 1 ≤ n → ring n ∈ [1, 3, 5, 7] := by decide
  exact this n h8 h1
theorem ring_cast {n : Nat} (h1 : 1 ≤ n) : ((ring n : Nat) : Int) = (n : Int) + (n : Int) % 2 - 1 := by unfold ring; omega

theorem rightL_len {xs : List Int} (h : rightL xs = true) : 1 ≤ xs.length ∧ xs.length ≤ 8 ∧ riseB xs (-1) = true := by
  simp only [rightL, Bool.and_eq_true, decide_eq_true_eq] at h
  exact ⟨h.1.1, h.1.2, h.2⟩

theorem rise_get {xs : List Int} : ∀ {l : Int}, riseB xs l = true → ∀ (i : Nat) (x : Int), xs[i]? = some x → l < x ∧ x < 8 := by
  induction xs with
  | nil => intro l _ i x hx; simp at hx
  | cons y ys ih =>
    intro l h i x hx
    simp only [riseB, Bool.and_eq_true, decide_eq_true_eq] at h
    cases i with
    | zero => simp at hx; subst hx; exact h.1
    | succ i => simp at hx; have := ih h.2 i x hx; omega

theorem rise_lt {xs : List Int} : ∀ {l : Int}, riseB xs l = true → ∀ (i j : Nat) (x y : Int), i < j → xs[i]? = some x → xs[j]? = some y → x < y := by
  induction xs with
  | nil => intro l _ i j x y _ hx; simp at hx
  | cons z zs ih =>
    intro l h i j x y hij hx hy
    simp only [riseB, Bool.and_eq_true, decide_eq_true_eq] at h
    cases j with
    | zero => omega
    | succ j =>
      simp at hy
      cases i with
      | zero => simp at hx; subst hx; exact (rise_get h.2 j y hy).1
      | succ i => simp at hx; exact ih h.2 i j x y (by omega) hx hy

theorem rise_inj {xs : List Int} (h : riseB xs (-1) = true) {i j : Nat} {x : Int} (hi : xs[i]? = some x) (hj : xs[j]? = some x) : i = j := by
  rcases Nat.lt_trichotomy i j with hlt | he | hgt
  · have := rise_lt h i j x x hlt hi hj; omega
  · exact he
  · have := rise_lt h j i x x hgt hj hi; omega

theorem oth_eq {k x m : Nat} (hk : k < m) (hx : x < m) (hm : m ≤ 7) : Int.tmod (IntKind.i64.wrap (Int.tmod (IntKind.i64.wrap ((k : Int) - x)) m + m)) m = ((k + m - x : Nat) % m : Nat) := by
  rw [w64 (n := (k : Int) - x) (by omega), tmod_small (a := (k : Int) - x) (m := m) (by omega) (by omega), w64 (by omega), tmod_nn (by omega), show ((k : Int) - x + m) = ((k + m - x : Nat) : Int) by omega, ← Int.natCast_emod]

theorem partner_end {w : World} {s : Sl} {xs : List Int} (h : Ints .i64 w s xs) {R : Value → World → Prop} {o : Int} {k : Nat} (ho : o = k) (hR : R (.tuple #[.int .i64 (if xs.length ≤ k then -1 else xs[k]?.getD 0), .int .i64 0]) w) : slots_Partner.c1 R s o w := by
  subst ho
  have hl := h.len
  unfold slots_Partner.c1
  refine cond_d (fun h1 => ?_) fun h1 => ?_
  · rw [if_pos (by omega)] at hR; exact hR
  · rw [if_neg (by omega)] at hR
    obtain ⟨p, hp, hc⟩ := h.get (i := (k : Int)) (by omega) (by omega)
    rw [Int.toNat_natCast] at hc
    exact ⟨by omega, by omega, p, hp, _, by rw [Int.toNat_natCast]; exact hc, hR⟩

theorem partner_yes {w : World} {s : Sl} {xs : List Int} (h : Ints .i64 w s xs) (hr : rightL xs = true) {me round : Int} (h0 : 0 ≤ round) {at_ : Nat} (hat : xs[at_]? = some me) :
    CallsV Try.prog n_slots_Partner #[.slice s.a s.len s.cap, .int .i64 me, .int .i64 round] w fun v w' => v = .tuple #[.int .i64 (pv xs at_ round), .int .i64 0] ∧ w = w' := by
  obtain ⟨h1, h8, hrise⟩ := rightL_len hr
  have hl := h.len
  have hatl : at_ < xs.length := (List.getElem?_eq_some_iff.1 hat).1
  refine slots_Partner.lift ?_
  unfold slots_Partner.main
  refine (right_spec h).mono ?_
  rintro _ _ ⟨rfl, rfl⟩
  refine ⟨_, rfl, ?_⟩
  rw [hr]
  refine cond_d (fun hx => by omega) fun _ => ?_
  unfold slots_Partner.c3
  refine (index_spec h me).mono ?_
  rintro _ _ ⟨⟨r, rfl, hres⟩, rfl⟩
  refine ⟨_, rfl, ?_⟩
  rcases hres with ⟨_, hno⟩ | ⟨k, rfl, hk⟩
  · exact absurd hat (hno at_)
  obtain rfl := rise_inj hrise hk hat
  refine cond_d (fun hx => by omega) fun _ => ⟨by decide, ?_⟩
  intro n9
  have hn9 : n9 = (xs.length : Int) + (xs.length : Int) % 2 := by
    show IntKind.i64.wrap _ = _
    rw [hl, tmod_nn (by omega), w64 (by omega)]
  clear_value n9
  intro ar
  have har : ar = ((ring xs.length : Nat) : Int) := by
    show IntKind.i64.wrap _ = _
    rw [hn9, w64 (by omega), ring_cast h1]
  clear_value ar
  subst har
  have hm := ring_mem h1 h8
  have hmp : 0 < ring xs.length ∧ ring xs.length ≤ 7 ∧ k ≤ ring xs.length := by
    unfold ring; omega
  refine ⟨by omega, ?_⟩
  intro kk
  have hkk : kk = ((round.toNat % ring xs.length : Nat) : Int) := by
    show Int.tmod _ _ = _
    rw [tmod_nn h0, Int.natCast_emod, Int.toNat_of_nonneg h0]
  clear_value kk
  subst hkk
  have hklt := Nat.mod_lt round.toNat hmp.1
  refine ⟨by omega, by omega, ?_⟩
  intro oth
  have hoth : k ≠ ring xs.length → oth = (((round.toNat % ring xs.length + ring xs.length - k) % ring xs.length : Nat) : Int) := by
    intro hne
    show Int.tmod (IntKind.i64.wrap (Int.tmod (IntKind.i64.wrap _) _ + _)) _ = _
    exact oth_eq hklt (by omega) hmp.2.1
  clear_value oth
  intro t
  show cond (((k : Nat) : Int) == ((ring xs.length : Nat) : Int)) _ _
  obtain ⟨f1, f2, f3⟩ := hf_facts _ hm _ hklt
  refine cond_e (fun he => ?_) fun hne => ?_
  · have he' : k = ring xs.length := by omega
    have hpl : place (ring xs.length) (round.toNat % ring xs.length) k = (if (round.toNat % ring xs.length) % 2 = 0 then (round.toNat % ring xs.length) / 2 else (round.toNat % ring xs.length + ring xs.length) / 2) := by
      unfold place; rw [if_pos he']
    unfold slots_Partner.l2
    refine ⟨fun st w'' => w = w'' ∧ ∃ o : Nat, st = o ∧ o ≤ place (ring xs.length) (round.toNat % ring xs.length) k, fun st _ => 8 - st.toNat, ⟨rfl, 0, rfl, Nat.zero_le _⟩, ?_⟩
    rintro o w'' ⟨rfl, o, rfl, hle⟩
    rw [hpl] at hle
    unfold slots_Partner.b2
    have e2 : Int.tmod (IntKind.i64.wrap (2 * (o : Int))) ((ring xs.length : Nat) : Int) = ((2 * o % ring xs.length : Nat) : Int) := by
      rw [w64 (by omega), tmod_nn (by omega), Int.natCast_emod, Int.natCast_mul]; rfl
    rw [e2]
    refine ⟨by omega, cond_n (fun hx => ?_) fun hx => ?_⟩
    · intro o2
      have ho2 : o2 = ((o + 1 : Nat) : Int) := by show IntKind.i64.wrap _ = _; rw [w64 (by omega)]; omega
      clear_value o2
      subst ho2
      have hlt : o ≠ place (ring xs.length) (round.toNat % ring xs.length) k := by
        intro hh; rw [hpl] at hh; rw [hh] at hx; exact hx (by rw [f1])
      rw [hpl] at hlt
      refine ⟨⟨rfl, rfl, rfl, rfl, o + 1, rfl, by rw [hpl]; omega⟩, by dsimp only; omega⟩
    · have hoe : o = place (ring xs.length) (round.toNat % ring xs.length) k := by
        rw [hpl]
        rcases Nat.lt_or_ge o (if (round.toNat % ring xs.length) % 2 = 0 then (round.toNat % ring xs.length) / 2 else (round.toNat % ring xs.length + ring xs.length) / 2) with hlt | hge
        · exact absurd (by omega) (f3 o hlt)
        · omega
      refine partner_end h rfl ?_
      rw [hoe]
      exact ⟨rfl, rfl⟩
  · have hne' : k ≠ ring xs.length := by omega
    have ho := hoth hne'
    intro t2
    show cond ((oth : Int) == ((k : Nat) : Int)) _ _
    rw [ho]
    refine cond_e (fun he => ?_) fun hne2 => ?_
    · refine partner_end h rfl ?_
      have hpl : place (ring xs.length) (round.toNat % ring xs.length) k = ring xs.length := by
        unfold place; rw [if_neg hne', if_pos (by omega)]
      refine ⟨?_, rfl⟩
      unfold pv
      rw [hpl]
    · refine partner_end h rfl ?_
      have hpl : place (ring xs.length) (round.toNat % ring xs.length) k = (round.toNat % ring xs.length + ring xs.length - k) % ring xs.length := by
        unfold place; rw [if_neg hne', if_neg (by omega)]
      refine ⟨?_, rfl⟩
      unfold pv
      rw [hpl]



theorem info_int : ∃ i, Try.prog.info? 3 = some i ∧ i.zero = some (.int .i64 0) ∧ i.size = 1 ∧ i.bytes = 8 := ⟨Try.t3, by kernel_rfl, by kernel_rfl, by kernel_rfl, by kernel_rfl⟩

theorem app_int {B : Nat} {w : World} {s : Sl} {xs : List Int} (h : OwnI B 3 .i64 w s xs) (x : Int) (hm : xs.length ≤ 1000000) (hB : B ≤ w.heap.size) :
    ∃ s' : Sl, ∃ w', (builtin .append #[23, 23] 23 #[] #[.slice s.a s.len s.cap, .slice (some (newA w)) 1 1]).run Try.prog (w.alloc (.cells #[.int .i64 x] 3)) = .ok (.value (.slice s'.a s'.len s'.cap)) w' ∧
      OwnI B 3 .i64 w' s' (xs ++ [x]) ∧ w.grownBy w' (Value.slice s.a s.len s.cap).ownBlock ∧ Below B w w' := by
  obtain ⟨i, hi, hz, hsz, hby⟩ := info_int
  exact append_int (ty := 23) Try.underlying23 hi hz hsz hby rfl h (by unfold maxLen; omega) (by omega) hB

theorem rise_snoc {xs : List Int} : ∀ {l : Int} {x : Int}, riseB xs l = true → (∀ y ∈ xs, y < x) → l < x → x < 8 → riseB (xs ++ [x]) l = true := by
  induction xs with
  | nil => intro l x _ _ h1 h2; simp [riseB, h1, h2]
  | cons y ys ih =>
    intro l x h hall h1 h2
    simp only [riseB, Bool.and_eq_true, decide_eq_true_eq] at h
    simp only [List.cons_append, riseB, Bool.and_eq_true, decide_eq_true_eq]
    exact ⟨h.1, ih h.2 (fun z hz => hall z (List.mem_cons_of_mem _ hz)) (hall y List.mem_cons_self) h2⟩

theorem members_spec (bits : Int) (w : World) :
    CallsV Try.prog n_trystlaw22_members #[.int .i64 bits] w fun v w' => ∃ (s : Sl) (xs : List Int), v = .slice s.a s.len s.cap ∧ Ints .i64 w' s xs ∧ rightL xs = true ∧ Below w.heap.size w w' := by
  refine trystlaw22_members.lift ?_
  unfold trystlaw22_members.main trystlaw22_members.l2
  refine ⟨fun st w' => ∃ (k : Nat) (xs : List Int), st.2 = k ∧ k ≤ 8 ∧ xs.length ≤ k ∧ riseB xs (-1) = true ∧ (∀ y ∈ xs, y < k) ∧ OwnI w.heap.size 3 .i64 w' st.1 xs ∧ Below w.heap.size w w', fun st _ => 8 - st.2.toNat,
    ⟨0, [], rfl, by omega, by simp, rfl, by simp, OwnI.nil, Below.refl _ _⟩, ?_⟩
  rintro ⟨s, i⟩ w' ⟨k, xs, hk, hk8, hlen, hrise, hall, hown, hb⟩
  dsimp only at hk hown
  subst hk
  unfold trystlaw22_members.b2
  refine cond_d (fun hlt => ?_) fun hge => ?_
  · refine ⟨by rw [IntKind.wrap_u64]; omega, cond_c (fun _ => ?_) fun _ => ?_⟩
    · obtain ⟨s', w2, hr, hown', hg, hb'⟩ := app_int hown k (by omega) hb.size
      refine ⟨_, _, _, _, hr, ?_⟩
      intro i2
      have hi2 : i2 = ((k + 1 : Nat) : Int) := by show IntKind.i64.wrap _ = _; rw [w64 (by omega)]; omega
      clear_value i2
      subst hi2
      refine ⟨⟨rfl, k + 1, xs ++ [(k : Int)], rfl, by omega, by simp; omega, rise_snoc hrise hall (by omega) (by omega), ?_, hown', hb.trans hb'⟩, by dsimp only; omega⟩
      intro y hy
      rcases List.mem_append.1 hy with h | h
      · have := hall y h; omega
      · simp at h; omega
    · intro i2
      have hi2 : i2 = ((k + 1 : Nat) : Int) := by show IntKind.i64.wrap _ = _; rw [w64 (by omega)]; omega
      clear_value i2
      subst hi2
      exact ⟨⟨rfl, k + 1, xs, rfl, by omega, by omega, hrise, fun y hy => by have := hall y hy; omega, hown, hb⟩, by dsimp only; omega⟩
  · unfold trystlaw22_members.c1
    have hl := hown.len
    refine cond_e (fun h0 => ?_) fun hne => ?_
    · dsimp only at h0
      obtain ⟨s', w2, hr, hown', hg, hb'⟩ := app_int hown 0 (by omega) hb.size
      have hxs : xs = [] := List.length_eq_zero_iff.1 (by omega)
      subst hxs
      exact ⟨_, _, _, _, hr, s', [0], rfl, hown'.ints (by simp), by decide, hb.trans hb'⟩
    · dsimp only at hne
      refine ⟨s, xs, rfl, hown.ints (by omega), ?_, hb⟩
      simp only [rightL, Bool.and_eq_true, decide_eq_true_eq]
      exact ⟨⟨by omega, by omega⟩, hrise⟩

/-- new numbers -/
theorem Ints.made {w : World} {e : TypeId} {xs : List Int} {cells : Array Value} (hc : cells = (xs.map (Value.int .i64)).toArray) (hs : xs.length ≤ 1000000) : Ints .i64 (w.alloc (.cells cells e)) ⟨some (newA w), xs.length, xs.length⟩ xs := by
  subst hc
  refine ⟨rfl, by simp only; omega, fun i x hx => ⟨newA w, rfl, by simp [newA], ?_⟩⟩
  have : (newA w).add i = ⟨w.heap.size, i, none⟩ := by unfold Addr.add newA; split <;> simp_all
  rw [this, World.cell?_alloc_new]
  simp [hx]

theorem wakes22_spec (w : World) : CallsV Try.prog n_trystlaw22_wakes #[] w fun v w' => v = .bool true ∧ Below w.heap.size w w' := by
  refine trystlaw22_wakes.lift ?_
  unfold trystlaw22_wakes.main
  intro w1
  have h1 : Ints .i64 w1 ⟨some (newA w), 2, 2⟩ [0, 1] := Ints.made (xs := [0, 1]) rfl (by simp)
  refine (partner_yes h1 (by decide) (by omega) (at_ := 0) rfl).mono ?_
  rintro _ _ ⟨rfl, rfl⟩
  refine ⟨_, _, rfl, ?_⟩
  intro w3
  have h3 : Ints .i64 w3 ⟨some (newA w1), 1, 1⟩ [3] := Ints.made (xs := [3]) rfl (by simp)
  refine (partner_yes h3 (by decide) (by omega) (at_ := 0) rfl).mono ?_
  rintro _ _ ⟨rfl, rfl⟩
  refine ⟨_, _, rfl, ?_⟩
  refine cond_t rfl (cond_t rfl (cond_t (by decide) ⟨congrArg Value.bool (by decide), ?_⟩))
  exact ((Below.refl _ _).alloc (Nat.le_refl _) _).alloc (by simp [w1]) _

/-! what meets what -/

theorem place_ne : ∀ n ≤ 8, 1 ≤ n → ∀ k < ring n, ∀ i < n, (place (ring n) k i == i) = false := by decide +kernel
theorem place_back : ∀ n ≤ 8, 1 ≤ n → ∀ k < ring n, ∀ i < n, (decide (n ≤ place (ring n) k i) || place (ring n) k (place (ring n) k i) == i) = true := by decide +kernel

/-- how many of the first j are alone -/
def aloneN (n k : Nat) : Nat → Nat
  | 0 => 0
  | j + 1 => aloneN n k j + if n ≤ place (ring n) k j then 1 else 0
theorem alone_all : ∀ n ≤ 8, 1 ≤ n → ∀ k < ring n, aloneN n k n = n % 2 := by decide +kernel

/-- in how many of the first j rounds i meets p -/
def metN (n b i p : Nat) : Nat → Nat
  | 0 => 0
  | j + 1 => metN n b i p j + if place (ring n) ((b + j) % ring n) i = p then 1 else 0
theorem met_all : ∀ n ≤ 8, 1 ≤ n → ∀ b < ring n, ∀ i < n, ∀ p < n, metN n b i p (ring n) = if i = p then 0 else 1 := by decide +kernel

/-- in how many of the first j rounds i is alone -/
def soloN (n b i : Nat) : Nat → Nat
  | 0 => 0
  | j + 1 => soloN n b i j + if n ≤ place (ring n) ((b + j) % ring n) i then 1 else 0
theorem solo_all : ∀ n ≤ 8, 1 ≤ n → ∀ b < ring n, ∀ i < n, soloN n b i (ring n) = n % 2 := by decide +kernel



theorem inc {k : Nat} (h : k < 9223372036854775807) : IntKind.i64.wrap ((k : Int) + 1) = ((k + 1 : Nat) : Int) := by rw [w64 (by omega)]; omega

theorem get_some {xs : List Int} {i : Nat} (h : i < xs.length) : xs[i]? = some (xs[i]?.getD 0) := by rw [List.getElem?_eq_getElem h]; rfl

theorem meet_spec (bits round : Int) (w : World) : CallsV Try.prog n_trystlaw22_SlotsMeet #[.int .i64 bits, .int .i64 round] w fun v w' => v = .bool true ∧ Below w.heap.size w w' := by
  refine trystlaw22_SlotsMeet.lift ?_
  unfold trystlaw22_SlotsMeet.main
  refine cond_d (fun _ => ⟨rfl, Below.refl _ _⟩) fun h0 => ?_
  refine (members_spec bits w).mono ?_
  rintro _ w1 ⟨s, xs, rfl, hI, hR, hb⟩
  refine ⟨_, _, _, rfl, ?_⟩
  obtain ⟨h1, h8, hrise⟩ := rightL_len hR
  have hl := hI.len
  have hm := ring_mem h1 h8
  have hmp : 0 < ring xs.length := by unfold ring; omega
  have hk := Nat.mod_lt round.toNat hmp
  unfold trystlaw22_SlotsMeet.l2
  refine ⟨fun st w' => ∃ j : Nat, st.2 = j ∧ j ≤ xs.length ∧ st.1 = (aloneN xs.length (round.toNat % ring xs.length) j : Nat) ∧ w1 = w', fun st _ => xs.length - st.2.toNat, ⟨0, rfl, Nat.zero_le _, rfl, rfl⟩, ?_⟩
  rintro ⟨al, i⟩ w' ⟨j, hj, hjl, hal, rfl⟩
  dsimp only at hj hal
  subst hj; subst hal
  unfold trystlaw22_SlotsMeet.b2
  have hal8 : ∀ j ≤ 8, aloneN xs.length (round.toNat % ring xs.length) j ≤ j := by
    intro j
    induction j with
    | zero => intro _; simp [aloneN]
    | succ j ih => intro hj; have := ih (by omega); unfold aloneN; split <;> omega
  have hal8 := hal8 j (by omega)
  dsimp only
  refine cond_d (fun hlt => ?_) fun hge => ?_
  · have hj' : j < xs.length := by omega
    obtain ⟨p, hp, hc⟩ := hI.get (i := (j : Int)) (by omega) (by omega)
    rw [Int.toNat_natCast] at hc
    refine ⟨by omega, by omega, p, hp, _, by rw [Int.toNat_natCast]; exact hc, ?_⟩
    refine (partner_yes hI hR (by omega) (get_some hj')).mono ?_
    rintro _ _ ⟨rfl, rfl⟩
    refine ⟨_, _, rfl, cond_n (fun h => absurd rfl h) fun _ => ⟨by omega, by omega, p, hp, _, by rw [Int.toNat_natCast]; exact hc, ?_⟩⟩
    have hne := place_ne _ h8 h1 _ hk j hj'
    have hback := place_back _ h8 h1 _ hk j hj'
    simp only [beq_eq_false_iff_ne, Bool.or_eq_true, decide_eq_true_eq, beq_iff_eq] at hne hback
    have hx := rise_get hrise j _ (get_some hj')
    have hstep : aloneN xs.length (round.toNat % ring xs.length) (j + 1) = aloneN xs.length (round.toNat % ring xs.length) j + if xs.length ≤ place (ring xs.length) (round.toNat % ring xs.length) j then 1 else 0 := rfl
    by_cases hpl : xs.length ≤ place (ring xs.length) (round.toNat % ring xs.length) j
    · have hpv : pv xs j round = -1 := by unfold pv; rw [if_pos hpl]
      rw [if_pos hpl] at hstep
      rw [hpv]
      refine cond_e (fun h => by omega) fun _ => ?_
      unfold trystlaw22_SlotsMeet.c3
      refine cond_d (fun _ => ?_) fun h => by omega
      intro a2 i2
      have ha2 : a2 = ((aloneN xs.length (round.toNat % ring xs.length) j + 1 : Nat) : Int) := inc (by omega)
      have hi2 : i2 = ((j + 1 : Nat) : Int) := inc (by omega)
      clear_value a2 i2
      subst ha2; subst hi2
      exact ⟨⟨rfl, rfl, j + 1, rfl, by omega, by rw [hstep], rfl⟩, by (try dsimp only); omega⟩
    · have hpv : pv xs j round = xs[place (ring xs.length) (round.toNat % ring xs.length) j]?.getD 0 := by unfold pv; rw [if_neg hpl]
      rw [if_neg hpl] at hstep
      have hpl' : place (ring xs.length) (round.toNat % ring xs.length) j < xs.length := by omega
      have hb2 := hback.resolve_left hpl
      have hy := rise_get hrise _ _ (get_some hpl')
      rw [hpv]
      refine cond_e (fun h => ?_) fun _ => ?_
      · exact absurd (rise_inj hrise (get_some hpl') (by rw [h]; exact get_some hj')) hne
      unfold trystlaw22_SlotsMeet.c3
      refine cond_d (fun h => by omega) fun _ => ?_
      refine (partner_yes hI hR (by omega) (get_some hpl')).mono ?_
      rintro _ _ ⟨rfl, rfl⟩
      have hpv2 : pv xs (place (ring xs.length) (round.toNat % ring xs.length) j) round = xs[j]?.getD 0 := by
        unfold pv; rw [hb2, if_neg (by omega)]
      refine ⟨_, _, rfl, cond_n (fun h => absurd rfl h) fun _ => ⟨by omega, by omega, p, hp, _, by rw [Int.toNat_natCast]; exact hc, cond_n (fun h => absurd hpv2 h) fun _ => ?_⟩⟩
      intro i2
      have hi2 : i2 = ((j + 1 : Nat) : Int) := inc (by omega)
      clear_value i2
      subst hi2
      exact ⟨⟨rfl, rfl, j + 1, rfl, by omega, by rw [hstep]; rfl, rfl⟩, by (try dsimp only); omega⟩
  · obtain rfl : j = xs.length := by omega
    have hall := alone_all _ h8 h1 _ hk
    unfold trystlaw22_SlotsMeet.c1
    refine ⟨by decide, cond_e (fun _ => ?_) fun h => absurd ?_ h⟩
    · refine (wakes22_spec w1).mono ?_
      rintro _ w2 ⟨rfl, hb2⟩
      exact ⟨_, rfl, rfl, hb.trans (hb2.mono hb.size)⟩
    · rw [hall, hl, tmod_nn (by omega)]; omega

theorem n_val {n : Nat} (h1 : 1 ≤ n) (h8 : n ≤ 8) : IntKind.i64.wrap (IntKind.i64.wrap (((n : Nat) : Int) + Int.tmod ((n : Nat) : Int) 2) - 1) = ((ring n : Nat) : Int) := by
  rw [tmod_nn (by omega), w64 (n := (n : Int) + _) (by omega), w64 (by omega), ring_cast h1]

theorem mod_shift (r j m : Nat) : (r + j) % m = (r % m + j) % m := by rw [Nat.mod_add_mod]

theorem pv_round {xs : List Int} {round : Int} (h0 : 0 ≤ round) (at_ j : Nat) : pv xs at_ (round + j) =
    if xs.length ≤ place (ring xs.length) ((round.toNat % ring xs.length + j) % ring xs.length) at_ then -1 else xs[place (ring xs.length) ((round.toNat % ring xs.length + j) % ring xs.length) at_]?.getD 0 := by
  unfold pv
  rw [show (round + j).toNat = round.toNat + j by omega, mod_shift]

theorem all_spec (bits round : Int) (w : World) : CallsV Try.prog n_trystlaw22_SlotsAll #[.int .i64 bits, .int .i64 round] w fun v w' => v = .bool true ∧ Below w.heap.size w w' := by
  refine trystlaw22_SlotsAll.lift ?_
  unfold trystlaw22_SlotsAll.main
  refine cond_d (fun _ => ⟨rfl, Below.refl _ _⟩) fun h0 => cond_d (fun _ => ⟨rfl, Below.refl _ _⟩) fun h40 => ?_
  unfold trystlaw22_SlotsAll.c6
  refine (members_spec bits w).mono ?_
  rintro _ w1 ⟨s, xs, rfl, hI, hR, hb⟩
  refine ⟨_, _, _, rfl, by decide, ?_⟩
  obtain ⟨h1, h8, hrise⟩ := rightL_len hR
  have hl := hI.len
  have hmp : 0 < ring xs.length ∧ ring xs.length ≤ 7 := by unfold ring; omega
  have hk := Nat.mod_lt round.toNat hmp.1
  intro n6
  have hn6 : n6 = ((ring xs.length : Nat) : Int) := by
    show IntKind.i64.wrap (IntKind.i64.wrap (((s.len : Nat) : Int) + _) - 1) = _
    rw [hl]; exact n_val h1 h8
  clear_value n6
  subst hn6
  unfold trystlaw22_SlotsAll.l2
  refine ⟨fun st w' => (∃ i : Nat, st = i ∧ i ≤ xs.length) ∧ w1 = w', fun st _ => xs.length - st.toNat, ⟨⟨0, rfl, Nat.zero_le _⟩, rfl⟩, ?_⟩
  rintro _ w' ⟨⟨i, rfl, hi⟩, rfl⟩
  unfold trystlaw22_SlotsAll.b2
  dsimp only
  refine cond_d (fun hlt => ?_) fun hge => ?_
  rotate_left
  · unfold trystlaw22_SlotsAll.c1
    refine (wakes22_spec w1).mono ?_
    rintro _ w2 ⟨rfl, hb2⟩
    exact ⟨_, rfl, rfl, hb.trans (hb2.mono hb.size)⟩
  have hi' : i < xs.length := by omega
  obtain ⟨p, hp, hc⟩ := hI.get (i := (i : Int)) (by omega) (by omega)
  rw [Int.toNat_natCast] at hc
  unfold trystlaw22_SlotsAll.l3
  refine ⟨fun st w' => (∃ k : Nat, st = k ∧ k ≤ xs.length) ∧ w1 = w', fun st _ => xs.length - st.toNat, ⟨⟨0, rfl, Nat.zero_le _⟩, rfl⟩, ?_⟩
  rintro _ w' ⟨⟨k, rfl, hkl⟩, rfl⟩
  unfold trystlaw22_SlotsAll.b3
  dsimp only
  refine cond_d (fun hlt => ?_) fun hge => ?_
  rotate_left
  · have hi2 : IntKind.i64.wrap ((i : Int) + 1) = ((i + 1 : Nat) : Int) := inc (by omega)
    rw [hi2]
    exact ⟨⟨rfl, rfl, rfl, ⟨i + 1, rfl, by omega⟩, rfl⟩, by (try dsimp only); omega⟩
  have hk' : k < xs.length := by omega
  obtain ⟨q, hq, hcq⟩ := hI.get (i := (k : Int)) (by omega) (by omega)
  rw [Int.toNat_natCast] at hcq
  unfold trystlaw22_SlotsAll.l5
  refine ⟨fun st w' => (∃ r : Nat, st.2 = r ∧ r ≤ ring xs.length ∧ st.1 = (metN xs.length (round.toNat % ring xs.length) i k r : Nat)) ∧ w1 = w', fun st _ => 8 - st.2.toNat, ⟨⟨0, rfl, Nat.zero_le _, rfl⟩, rfl⟩, ?_⟩
  rintro ⟨met, r⟩ w' ⟨⟨j, hj, hjm, hmet⟩, rfl⟩
  dsimp only at hj hmet
  subst hj; subst hmet
  have hm8 : ∀ j ≤ 8, metN xs.length (round.toNat % ring xs.length) i k j ≤ j := by
    intro j
    induction j with
    | zero => intro _; simp [metN]
    | succ j ih => intro hj; have := ih (by omega); unfold metN; split <;> omega
  have hm8 := hm8 j (by omega)
  unfold trystlaw22_SlotsAll.b5
  dsimp only
  refine cond_d (fun hlt => ?_) fun hge => ?_
  · refine ⟨by omega, by omega, p, hp, _, by rw [Int.toNat_natCast]; exact hc, ?_⟩
    rw [w64 (n := round + j) (by omega)]
    refine (partner_yes hI hR (by omega) (get_some hi')).mono ?_
    rintro _ _ ⟨rfl, rfl⟩
    refine ⟨_, _, rfl, cond_n (fun h => absurd rfl h) fun _ => ⟨by omega, by omega, q, hq, _, by rw [Int.toNat_natCast]; exact hcq, ?_⟩⟩
    rw [pv_round (by omega)]
    have hstep : metN xs.length (round.toNat % ring xs.length) i k (j + 1) = metN xs.length (round.toNat % ring xs.length) i k j + if place (ring xs.length) ((round.toNat % ring xs.length + j) % ring xs.length) i = k then 1 else 0 := rfl
    have hxk := rise_get hrise k _ (get_some hk')
    refine cond_e (fun h => ?_) fun h => ?_
    · have hpk : place (ring xs.length) ((round.toNat % ring xs.length + j) % ring xs.length) i = k := by
        split at h
        · omega
        · exact rise_inj hrise (get_some (by omega)) (by rw [h]; exact get_some hk')
      rw [if_pos hpk] at hstep
      have hm2 : IntKind.i64.wrap ((metN xs.length (round.toNat % ring xs.length) i k j : Nat) + 1) = ((metN xs.length (round.toNat % ring xs.length) i k j + 1 : Nat) : Int) := inc (by omega)
      have hr2 : IntKind.i64.wrap ((j : Int) + 1) = ((j + 1 : Nat) : Int) := inc (by omega)
      rw [hm2, hr2]
      exact ⟨⟨rfl, rfl, rfl, rfl, rfl, ⟨j + 1, rfl, by omega, by rw [hstep]⟩, rfl⟩, by (try dsimp only); omega⟩
    · have hpk : ¬ place (ring xs.length) ((round.toNat % ring xs.length + j) % ring xs.length) i = k := by
        intro hh
        rw [hh, if_neg (by omega)] at h
        exact h rfl
      rw [if_neg hpk] at hstep
      have hr2 : IntKind.i64.wrap ((j : Int) + 1) = ((j + 1 : Nat) : Int) := inc (by omega)
      rw [hr2]
      exact ⟨⟨rfl, rfl, rfl, rfl, rfl, ⟨j + 1, rfl, by omega, by rw [hstep]; rfl⟩, rfl⟩, by (try dsimp only); omega⟩
  · obtain rfl : j = ring xs.length := by omega
    have hall := met_all _ h8 h1 _ hk i hi' k hk'
    have hk2 : IntKind.i64.wrap ((k : Int) + 1) = ((k + 1 : Nat) : Int) := inc (by omega)
    unfold trystlaw22_SlotsAll.c4
    rw [hall, hk2]
    refine cond_e (fun he => ?_) fun hne => ?_
    · rw [if_pos (by omega)]
      refine cond_n (fun h => absurd rfl h) fun _ => cond_n (fun h => absurd he h) fun _ => ?_
      exact ⟨⟨rfl, rfl, rfl, rfl, ⟨k + 1, rfl, by omega⟩, rfl⟩, by (try dsimp only); omega⟩
    · rw [if_neg (by omega)]
      refine cond_n (fun _ => cond_n (fun h => absurd rfl h) fun _ => ?_) fun h => absurd h hne
      exact ⟨⟨rfl, rfl, rfl, rfl, ⟨k + 1, rfl, by omega⟩, rfl⟩, by (try dsimp only); omega⟩

theorem turn_spec (bits round : Int) (w : World) : CallsV Try.prog n_trystlaw22_SlotsTurn #[.int .i64 bits, .int .i64 round] w fun v w' => v = .bool true ∧ Below w.heap.size w w' := by
  refine trystlaw22_SlotsTurn.lift ?_
  unfold trystlaw22_SlotsTurn.main
  refine cond_d (fun _ => ⟨rfl, Below.refl _ _⟩) fun h0 => cond_d (fun _ => ⟨rfl, Below.refl _ _⟩) fun h40 => ?_
  unfold trystlaw22_SlotsTurn.c6
  refine (members_spec bits w).mono ?_
  rintro _ w1 ⟨s, xs, rfl, hI, hR, hb⟩
  refine ⟨_, _, _, rfl, by decide, ?_⟩
  obtain ⟨h1, h8, hrise⟩ := rightL_len hR
  have hl := hI.len
  have hmp : 0 < ring xs.length ∧ ring xs.length ≤ 7 := by unfold ring; omega
  have hk := Nat.mod_lt round.toNat hmp.1
  intro n6
  have hn6 : n6 = ((ring xs.length : Nat) : Int) := by
    show IntKind.i64.wrap (IntKind.i64.wrap (((s.len : Nat) : Int) + _) - 1) = _
    rw [hl]; exact n_val h1 h8
  clear_value n6
  subst hn6
  unfold trystlaw22_SlotsTurn.l2
  refine ⟨fun st w' => (∃ i : Nat, st = i ∧ i ≤ xs.length) ∧ w1 = w', fun st _ => xs.length - st.toNat, ⟨⟨0, rfl, Nat.zero_le _⟩, rfl⟩, ?_⟩
  rintro _ w' ⟨⟨i, rfl, hi⟩, rfl⟩
  unfold trystlaw22_SlotsTurn.b2
  dsimp only
  refine cond_d (fun hlt => ?_) fun hge => ?_
  rotate_left
  · unfold trystlaw22_SlotsTurn.c1
    refine (wakes22_spec w1).mono ?_
    rintro _ w2 ⟨rfl, hb2⟩
    exact ⟨_, rfl, rfl, hb.trans (hb2.mono hb.size)⟩
  have hi' : i < xs.length := by omega
  obtain ⟨p, hp, hc⟩ := hI.get (i := (i : Int)) (by omega) (by omega)
  rw [Int.toNat_natCast] at hc
  unfold trystlaw22_SlotsTurn.l4
  refine ⟨fun st w' => (∃ r : Nat, st.2 = r ∧ r ≤ ring xs.length ∧ st.1 = (soloN xs.length (round.toNat % ring xs.length) i r : Nat)) ∧ w1 = w', fun st _ => 8 - st.2.toNat, ⟨⟨0, rfl, Nat.zero_le _, rfl⟩, rfl⟩, ?_⟩
  rintro ⟨met, r⟩ w' ⟨⟨j, hj, hjm, hmet⟩, rfl⟩
  dsimp only at hj hmet
  subst hj; subst hmet
  have hm8 : ∀ j ≤ 8, soloN xs.length (round.toNat % ring xs.length) i j ≤ j := by
    intro j
    induction j with
    | zero => intro _; simp [soloN]
    | succ j ih => intro hj; have := ih (by omega); unfold soloN; split <;> omega
  have hm8 := hm8 j (by omega)
  have hi2 : IntKind.i64.wrap ((i : Int) + 1) = ((i + 1 : Nat) : Int) := inc (by omega)
  have hr2 : IntKind.i64.wrap ((j : Int) + 1) = ((j + 1 : Nat) : Int) := inc (by omega)
  have ha2 : IntKind.i64.wrap ((soloN xs.length (round.toNat % ring xs.length) i j : Nat) + 1) = ((soloN xs.length (round.toNat % ring xs.length) i j + 1 : Nat) : Int) := inc (by omega)
  unfold trystlaw22_SlotsTurn.b4
  dsimp only
  refine cond_d (fun hlt => ?_) fun hge => ?_
  · refine ⟨by omega, by omega, p, hp, _, by rw [Int.toNat_natCast]; exact hc, ?_⟩
    rw [w64 (n := round + j) (by omega)]
    refine (partner_yes hI hR (by omega) (get_some hi')).mono ?_
    rintro _ _ ⟨rfl, rfl⟩
    refine ⟨_, _, rfl, by omega, by omega, p, hp, _, by rw [Int.toNat_natCast]; exact hc, ?_⟩
    rw [w64 (n := round + j + _) (by omega)]
    refine (partner_yes hI hR (by omega) (get_some hi')).mono ?_
    rintro _ _ ⟨rfl, rfl⟩
    have hsame : pv xs i (round + (j : Int) + ((ring xs.length : Nat) : Int)) = pv xs i (round + j) := by
      rw [show round + (j : Int) + ((ring xs.length : Nat) : Int) = round + ((j + ring xs.length : Nat) : Int) by omega, pv_round (by omega), pv_round (by omega)]
      rw [← Nat.add_assoc, Nat.add_mod_right]
    refine ⟨_, _, rfl, cond_n (fun h => absurd rfl h) fun _ => cond_n (fun h => absurd rfl h) fun _ => cond_n (fun h => absurd hsame.symm h) fun _ => ?_⟩
    have hstep : soloN xs.length (round.toNat % ring xs.length) i (j + 1) = soloN xs.length (round.toNat % ring xs.length) i j + if xs.length ≤ place (ring xs.length) ((round.toNat % ring xs.length + j) % ring xs.length) i then 1 else 0 := rfl
    rw [pv_round (by omega)]
    unfold trystlaw22_SlotsTurn.c5
    rw [ha2, hr2]
    refine cond_d (fun h => ?_) fun h => ?_
    · have hpk : xs.length ≤ place (ring xs.length) ((round.toNat % ring xs.length + j) % ring xs.length) i := by
        split at h
        · assumption
        · have := rise_get hrise _ _ (get_some (xs := xs) (i := place (ring xs.length) ((round.toNat % ring xs.length + j) % ring xs.length) i) (by omega)); omega
      rw [if_pos hpk] at hstep
      exact ⟨⟨rfl, rfl, rfl, rfl, ⟨j + 1, rfl, by omega, by rw [hstep]⟩, rfl⟩, by (try dsimp only); omega⟩
    · have hpk : ¬ xs.length ≤ place (ring xs.length) ((round.toNat % ring xs.length + j) % ring xs.length) i := by
        intro hh; rw [if_pos hh] at h; omega
      rw [if_neg hpk] at hstep
      exact ⟨⟨rfl, rfl, rfl, rfl, ⟨j + 1, rfl, by omega, by rw [hstep]; rfl⟩, rfl⟩, by (try dsimp only); omega⟩
  · obtain rfl : j = ring xs.length := by omega
    have hall := solo_all _ h8 h1 _ hk i hi'
    unfold trystlaw22_SlotsTurn.c3
    rw [hall, hi2]
    refine ⟨by decide, cond_n (fun h => absurd ?_ h) fun _ => ?_⟩
    · rw [hl, tmod_nn (by omega)]; omega
    · exact ⟨⟨rfl, rfl, rfl, ⟨i + 1, rfl, by omega⟩, rfl⟩, by (try dsimp only); omega⟩

end Go.Proofs.Ytnnpkjhpeefnbaa
