/-
  Disk: sectors, bytes held against one another, the wake; what the state of a disk becomes: small laws.
-/
import Derived.Test.YtnnpkjhpeefnbaaDiD
set_option linter.unusedVariables false
set_option linter.unusedSimpArgs false
namespace Go.Proofs.Ytnnpkjhpeefnbaa
open Go.Lf Go.RowKit

def padI (xs : List Int) : List Int := xs.take 64 ++ (List.replicate 64 0).drop xs.length
theorem padI_len (xs : List Int) : (padI xs).length = 64 := by simp [padI]; omega

theorem info5 : (Try.prog.info? 5).map (·.size) = some 1 := by kernel_rfl

theorem sector_spec {w : World} {s : Sl} {xs : List Int} (h : Ints .u8 w s xs) :
    CallsV Try.prog n_trystlaw13_Sector #[.slice s.a s.len s.cap] w fun v w' => ∃ s' : Sl, v = .slice s'.a s'.len s'.cap ∧ OwnI w.heap.size 5 .u8 w' s' (padI xs) ∧ Below w.heap.size w w' := by
  refine trystlaw13_Sector.lift ?_
  unfold trystlaw13_Sector.main
  refine ⟨by omega, by omega, by omega, by omega, ?_⟩
  have hmk := make_ints (w := w) (n := 64) (e := 5) (k := .u8) (by unfold maxLen; omega)
  intro w1
  have hb1 : Below w.heap.size w w1 := below_alloc _ _
  obtain ⟨w2, hr, ho, hg, hsz⟩ := copy_ints (t' := 52) (ty := 3) Try.underlying52 info5 hmk (h.keep hb1) (by simp)
  refine ⟨_, w2, hr, ⟨some (newA w), 64, 64⟩, rfl, ?_, hb1.grown hg (by rw [show w1 = _ from rfl, size_alloc]; omega) fun k hk => by simp [Value.ownBlock, newA] at hk; omega⟩
  rw [List.length_replicate] at ho
  exact ho

theorem bytes_spec {w : World} {s t : Sl} {xs ys : List Int} (h : Ints .u8 w s xs) (h' : Ints .u8 w t ys) :
    CallsV Try.prog n_trystkeep_Bytes #[.slice s.a s.len s.cap, .slice t.a t.len t.cap] w fun v w' => v = .bool (decide (xs = ys)) ∧ Same w w' := by
  refine trystkeep_Bytes.lift ?_
  have hl := h.len
  have hl' := h'.len
  have hsm := h.small
  unfold trystkeep_Bytes.main
  refine cond_n (fun hne => ⟨by rw [decide_eq_false (fun he => hne (by rw [hl, hl', he]))], Same.refl _⟩) fun he => ?_
  unfold trystkeep_Bytes.l1
  refine ⟨fun st w' => Same w w' ∧ ∃ k : Nat, st = k ∧ k ≤ xs.length ∧ xs.take k = ys.take k, fun st _ => xs.length - st.toNat, ⟨Same.refl _, 0, rfl, Nat.zero_le _, rfl⟩, ?_⟩
  rintro _ w' ⟨hs, k, rfl, hle, htk⟩
  unfold trystkeep_Bytes.b1
  refine cond_d (fun hlt => ?_) fun hge => ⟨?_, hs⟩
  · obtain ⟨p, hp, hc⟩ := (h.same hs).get (i := (k : Int)) (by omega) (by omega)
    obtain ⟨q, hq, hd⟩ := (h'.same hs).get (i := (k : Int)) (by omega) (by omega)
    refine ⟨by omega, by omega, p, hp, _, hc, by omega, by omega, q, hq, _, hd, ?_⟩
    have hk : k < xs.length := by omega
    have hk' : k < ys.length := by omega
    rw [Int.toNat_natCast, List.getElem?_eq_getElem hk, List.getElem?_eq_getElem hk', Option.getD_some, Option.getD_some, inc (by omega)]
    refine cond_n (fun hne => ⟨?_, hs.drew'⟩) fun heq => ?_
    · rw [decide_eq_false]
      intro hxy
      subst hxy
      exact hne rfl
    · refine ⟨⟨rfl, rfl, hs.drew', k + 1, rfl, by omega, ?_⟩, by (try dsimp only); omega⟩
      rw [List.take_succ_eq_append_getElem hk, List.take_succ_eq_append_getElem hk', htk, heq]
  · rw [decide_eq_true]
    rwa [List.take_of_length_le (by omega), List.take_of_length_le (by omega)] at htk

/-! the states -/

def hitT : Option (Int × List Bool × Int) → Bool
  | some (n, _, _) => !decide (n - 1 > 0)
  | none => false
def decT : Option (Int × List Bool × Int) → Option (Int × List Bool × Int)
  | some (n, k, t) => some (n - 1, k, t)
  | none => none
def tornOf : Option (Int × List Bool × Int) → Int
  | some (_, _, t) => t
  | none => 0

theorem tripsD_eq {st : DS} (h : st.off = false) : tripsD st = if hitT st.trip = true then (true, ⟨crashSafe (keepOf st.trip) (tornOf st.trip) 0 st.pend st.safe, [], true, none⟩) else (false, { st with trip := decT st.trip }) := by
  obtain ⟨safe, pend, off, trip⟩ := st
  dsimp only at h ⊢
  subst h
  cases trip with
  | none => rfl
  | some t =>
    obtain ⟨n, k, t⟩ := t
    have e : tripsD ⟨safe, pend, false, some (n, k, t)⟩ = if n - 1 > 0 then (false, ⟨safe, pend, false, some (n - 1, k, t)⟩) else (true, crashD ⟨safe, pend, false, some (n - 1, k, t)⟩ k t) := rfl
    rw [e]
    by_cases hn : n - 1 > 0
    · have hh : hitT (some (n, k, t)) = false := by simp [hitT]; omega
      rw [if_pos hn, if_neg (by rw [hh]; simp)]; rfl
    · have hh : hitT (some (n, k, t)) = true := by simp [hitT]; omega
      rw [if_neg hn, if_pos hh]; rfl

theorem crashSafe_length (keep : List Bool) (torn : Int) : ∀ (p : List (Nat × List Int)) (k : Nat) (s : List (Option (List Int))), (crashSafe keep torn k p s).length = s.length
  | [], _, _ => rfl
  | x :: r, k, s => by
    unfold crashSafe
    rw [crashSafe_length keep torn r (k + 1)]
    split
    · simp
    · split <;> simp

structure Wf (n : Nat) (st : DS) : Prop where
  pend : st.pend.length ≤ n
  keep : ∀ t, st.trip = some t → t.2.1.length ≤ 1000000000
theorem Wf.d {n : Nat} {st : DS} (h : Wf n st) (hn : n ≤ 1000000) : WfD st := ⟨Nat.le_trans h.pend hn, h.keep⟩
theorem Wf.mono {n m : Nat} {st : DS} (h : Wf n st) (hn : n ≤ m) : Wf m st := ⟨Nat.le_trans h.pend hn, h.keep⟩
theorem Wf.new (n : Nat) : Wf 0 (newD n) := ⟨Nat.zero_le _, fun t h => by cases h⟩
theorem Wf.start {n : Nat} {st : DS} (h : Wf n st) : Wf n (startD st) := ⟨h.pend, h.keep⟩
theorem Wf.crash {n : Nat} {st : DS} (h : Wf n st) (keep : List Bool) (torn : Int) : Wf n (crashD st keep torn) := by
  unfold crashD
  split
  · exact h
  · exact ⟨Nat.zero_le _, fun t h => by cases h⟩
theorem Wf.tripD {n : Nat} {st : DS} (h : Wf n st) {keep : List Bool} (hk : keep.length ≤ 1000000000) (m torn : Int) : Wf n (tripD st m keep torn) := by
  refine ⟨h.pend, fun t ht => ?_⟩
  simp only [Proofs.Ytnnpkjhpeefnbaa.tripD] at ht
  split at ht
  · obtain rfl := Option.some.inj ht; exact hk
  · cases ht
theorem Wf.trips {n : Nat} {st : DS} (h : Wf n st) (ho : st.off = false) : Wf n (tripsD st).2 := by
  rw [tripsD_eq ho]
  split
  · exact ⟨Nat.zero_le _, fun t h => by cases h⟩
  · refine ⟨h.pend, fun t ht => ?_⟩
    dsimp only at ht
    cases hh : st.trip with
    | none => rw [hh] at ht; cases ht
    | some u =>
      obtain ⟨a, b, c⟩ := u
      rw [hh] at ht
      obtain rfl := Option.some.inj ht
      exact h.keep (a, b, c) hh
theorem wrongD_off {st : DS} {i : Int} (h : wrongD st i = 0) : st.off = false ∧ 0 ≤ i ∧ i < (st.safe.length : Int) := by
  unfold wrongD at h
  cases ho : st.off with
  | true => rw [ho] at h; simp at h
  | false =>
    rw [ho] at h
    simp only [Bool.false_eq_true, if_false] at h
    split at h
    · cases h
    · exact ⟨rfl, by omega⟩
theorem Wf.write {n : Nat} {st : DS} (h : Wf n st) (i : Int) (b : List Int) : Wf (n + 1) (writeD st i b).2 := by
  unfold writeD
  split
  · exact h.mono (by omega)
  · rename_i h0
    split
    · exact h.mono (by omega)
    · have ho := (wrongD_off (Decidable.not_not.1 h0)).1
      refine Wf.trips (n := n + 1) (st := addD st i.toNat b) ⟨?_, h.keep⟩ ho
      have := h.pend
      simp [addD]; omega
theorem Wf.sync {n : Nat} {st : DS} (h : Wf n st) : Wf n (syncD st).2 := by
  unfold syncD
  split
  · exact h
  · rename_i h0
    have ht := h.trips (by simpa using h0)
    split
    · exact ht
    · exact ⟨Nat.zero_le _, ht.keep⟩

theorem BoolsR.of_els {w : World} {s : Sl} {bs : List Bool} (h : Els 1 BoolC w s bs) : BoolsR w s bs := by
  refine ⟨h.len, fun i b hb => ?_⟩
  obtain ⟨p, cs, hp, _, hc, he⟩ := h.el i b hb
  have he : cs = [.bool b] := he
  subst he
  exact ⟨p, hp, by have := hc 0 _ rfl; simpa using this⟩

/-! the wake -/

def sev : List Int := 7 :: List.replicate 63 0
def wk1 : DS := (writeD (newD 2) 0 sev).2
def wk2 : DS := (writeD wk1 1 sev).2
def wk3 : DS := startD (crashD wk2 [false, true] (-1))
theorem wk_facts : (writeD (newD 2) 0 sev).1 = 0 ∧ (readD wk3 0).2 = 0 ∧ (readD wk3 1).2 = 0 ∧ (readD wk3 0).1[0]?.getD 5 = 0 ∧ (readD wk3 1).1[0]?.getD 5 = 7 ∧ (readD wk3 0).1.length = 64 ∧ (readD wk3 1).1.length = 64 := by decide +kernel

theorem wakes13_spec (w : World) : CallsV Try.prog n_trystlaw13_wakes #[] w fun v w' => v = .bool true ∧ Below w.heap.size w w' := by
  refine trystlaw13_wakes.lift ?_
  unfold trystlaw13_wakes.main
  obtain ⟨f0, f1, f2, f3, f4, f5, f6⟩ := wk_facts
  refine (new_spec (Sep.nil (Nat.le_refl w.heap.size)) 2 (by omega) (by omega)).mono ?_
  rintro _ w1 ⟨d, rfl, h1, hb1⟩
  refine ⟨_, _, rfl, cond_n (fun h => absurd rfl h) fun _ => cond_f' rfl ?_⟩
  unfold trystlaw13_wakes.c1
  refine ⟨by omega, by omega, by omega, by omega, ?_⟩
  have hmk := make_ints (w := w1) (n := 64) (e := 5) (k := .u8) (by unfold maxLen; omega)
  intro w2
  have hb2 : Below w1.heap.size w1 w2 := below_alloc _ _
  have h2 : Sep w.heap.size w2 (rowA 5 1 ⟨some (newA w1), 64, 64⟩ 64 ((List.replicate 64 0).map (Value.int .u8)) :: [diskA d (newD 2)]) := Sep.row (n := 64) h1 hmk hb2
  refine ⟨by omega, by omega, newA w1, rfl, h2.rowWr 0 rfl rfl (j := 0) (by simp), ?_⟩
  intro w3
  obtain ⟨h3, hb3⟩ := h2.rowSet 0 rfl (q := newA w1) rfl (j := 0) (by simp) (.int .u8 7)
  have hB3 : Below w.heap.size w w3 := (hb1.next hb2 (Nat.le_refl _)).trans hb3
  have hI : ∀ w', Below w.heap.size w3 w' → Sep w.heap.size w' [rowA 5 1 ⟨some (newA w1), 64, 64⟩ 64 (((List.replicate 64 0).map (Value.int .u8)).set 0 (.int .u8 7))] → Ints .u8 w' ⟨some (newA w1), 64, 64⟩ sev := by
    intro w' _ hS
    refine ⟨rfl, by simp only; omega, fun i x hx => ?_⟩
    have hlt : i < 64 := by have := (List.getElem?_eq_some_iff.1 hx).1; simpa [sev] using this
    obtain ⟨q, hq, hc⟩ := hS.rowCell 0 rfl (j := i) (by simpa using hlt)
    have hq : some (newA w1) = some q := hq
    obtain rfl := Option.some.inj hq
    have hv := hc i (.int .u8 x) (by
      have e : ((List.replicate 64 0).map (Value.int .u8)).set 0 (.int .u8 7) = sev.map (Value.int .u8) := rfl
      rw [e, List.getElem?_map, hx]; rfl)
    refine ⟨_, rfl, ?_, hv⟩
    have := World.block_lt_of_cell? _ _ hv
    rwa [add_block] at this
  have h3' := h3.swap
  refine (write_spec h3' ((Wf.new 2).d (by omega)) 0 (by simp [sev]) hI).mono ?_
  rintro _ w4 ⟨rfl, h4, hb4⟩
  refine ⟨_, rfl, ?_⟩
  refine (write_spec h4 (((Wf.new 2).write 0 sev).d (by omega)) 1 (by simp [sev]) fun w' hb hS => hI w' (hb4.trans hb) hS).mono ?_
  rintro _ w5 ⟨rfl, h5, hb5⟩
  refine ⟨_, rfl, ?_⟩
  intro w6
  obtain ⟨h6, hb6⟩ := Sep.box h5 [.bool false, .bool true] 4
  have h6' := h6.swap
  refine (crash_spec (kl := [false, true]) (keep := ⟨some (newA w5), 2, 2⟩) h6' (-1) (by have := ((((Wf.new 2).write 0 sev).write 1 sev).pend); omega) fun w' _ hS => ⟨rfl, fun i b hb => ⟨newA w5, rfl, hS.cell 0 rfl i (by
    match i, hb with
    | 0, hb => simpa using hb
    | 1, hb => simpa using hb)⟩⟩).mono ?_
  rintro _ w7 ⟨rfl, h7, hb7⟩
  refine ⟨rfl, ?_⟩
  refine (start_spec h7).mono ?_
  rintro _ w8 ⟨rfl, h8, hb8⟩
  refine ⟨rfl, ?_⟩
  have h8 : Sep w.heap.size w8 (diskA d wk3 :: _) := h8
  have hB8 : Below w.heap.size w w8 := ((((hB3.trans hb4).trans hb5).trans hb6).trans hb7).trans hb8
  refine (read_spec h8 0).mono ?_
  rintro _ w9 ⟨s1, rfl, hI1, h9, hb9⟩
  refine ⟨_, _, _, _, rfl, ?_⟩
  refine (read_spec h9.swap |> fun _ => read_spec (h9.drop) 1).mono ?_
  rintro _ w10 ⟨s2, rfl, hI2, h10, hb10⟩
  refine ⟨_, _, _, _, rfl, ?_⟩
  have hI1' := hI1.keep hb10
  have l1 := hI1'.len
  have l2 := hI2.len
  obtain ⟨p, ep, cp⟩ := hI1'.get (i := 0) (by omega) (by omega)
  obtain ⟨q, eq, cq⟩ := hI2.get (i := 0) (by omega) (by omega)
  have g1 : (readD wk3 0).1[(0 : Int).toNat]?.getD 0 = 0 := by
    have : (0 : Nat) < (readD wk3 0).1.length := by omega
    rw [show (0 : Int).toNat = 0 from rfl]
    rw [List.getElem?_eq_getElem this] at f3 ⊢
    exact f3
  have g2 : (readD wk3 1).1[(0 : Int).toNat]?.getD 0 = 7 := by
    have : (0 : Nat) < (readD wk3 1).1.length := by omega
    rw [show (0 : Int).toNat = 0 from rfl]
    rw [List.getElem?_eq_getElem this] at f4 ⊢
    exact f4
  rw [g1] at cp
  rw [g2] at cq
  rw [f1, f2]
  exact cond_t rfl (cond_t rfl ⟨by omega, by omega, p, ep, _, cp, cond_t rfl ⟨by omega, by omega, q, eq, _, cq, rfl, (hB8.next hb9 (Nat.le_refl _)).next hb10 (Nat.le_refl _)⟩⟩)

end Go.Proofs.Ytnnpkjhpeefnbaa
