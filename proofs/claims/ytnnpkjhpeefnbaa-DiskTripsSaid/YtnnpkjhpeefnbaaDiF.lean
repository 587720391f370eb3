/-
  DiskTrips: its contract.
-/
import Derived.Test.YtnnpkjhpeefnbaaDiE
set_option linter.unusedVariables false
set_option linter.unusedSimpArgs false
namespace Go.Proofs.Ytnnpkjhpeefnbaa
open Go.Lf Go.RowKit

/-- what is armed behind k calls -/
def armed (n : Int) (kl : List Bool) (torn : Int) (k : Nat) : Option (Int × List Bool × Int) := if n ≥ 1 ∧ (k : Int) < n then some (n - k, kl, torn) else none

theorem armed_hit (n : Int) (kl : List Bool) (torn : Int) (k : Nat) : hitT (armed n kl torn k) = decide ((k : Int) + 1 = n) := by
  unfold armed
  by_cases h : n ≥ 1 ∧ (k : Int) < n
  · rw [if_pos h]
    simp only [hitT]
    by_cases h2 : (k : Int) + 1 = n
    · rw [decide_eq_true h2, decide_eq_false (by omega)]; rfl
    · rw [decide_eq_false h2, decide_eq_true (by omega)]; rfl
  · rw [if_neg h, decide_eq_false (by omega)]; rfl
theorem armed_dec (n : Int) (kl : List Bool) (torn : Int) (k : Nat) (h2 : (k : Int) + 1 ≠ n) : decT (armed n kl torn k) = armed n kl torn (k + 1) := by
  unfold armed
  by_cases h : n ≥ 1 ∧ (k : Int) < n
  · rw [if_pos h, if_pos ⟨h.1, by omega⟩]
    simp only [decT]
    congr 2; omega
  · rw [if_neg h, if_neg (by omega)]; rfl
theorem armed_gone (n : Int) (kl : List Bool) (torn : Int) (k : Nat) (h2 : (k : Int) + 1 = n) : armed n kl torn (k + 1) = none := by
  unfold armed; rw [if_neg (by omega)]

theorem sync_armed {st : DS} (ho : st.off = false) : if hitT st.trip = true then (syncD st).1 = 9 ∧ (syncD st).2.off = true ∧ (syncD st).2.trip = none ∧ (syncD st).2.safe.length = st.safe.length
    else (syncD st).1 = 0 ∧ (syncD st).2.off = false ∧ (syncD st).2.trip = decT st.trip ∧ (syncD st).2.safe.length = st.safe.length := by
  have e := tripsD_eq ho
  split
  · rename_i h
    rw [if_pos h] at e
    rw [syncD, if_neg (by rw [ho]; simp), e, if_pos rfl]
    exact ⟨rfl, rfl, rfl, crashSafe_length _ _ _ _ _⟩
  · rename_i h
    rw [if_neg h] at e
    rw [syncD, if_neg (by rw [ho]; simp), e, if_neg (by simp)]
    exact ⟨rfl, ho, rfl, nowOf_length _ _⟩

theorem write_armed {st : DS} (ho : st.off = false) {i : Int} {b : List Int} (hi : 0 ≤ i ∧ i < (st.safe.length : Int)) (hb : b.length = 64) : if hitT st.trip = true then (writeD st i b).1 = 9 ∧ (writeD st i b).2.off = true ∧ (writeD st i b).2.trip = none ∧ (writeD st i b).2.safe.length = st.safe.length
    else (writeD st i b).1 = 0 ∧ (writeD st i b).2.off = false ∧ (writeD st i b).2.trip = decT st.trip ∧ (writeD st i b).2.safe.length = st.safe.length := by
  have h0 : wrongD st i = 0 := by rw [wrongD, if_neg (by rw [ho]; simp), if_neg (by omega)]
  have e := tripsD_eq (st := addD st i.toNat b) ho
  have et : (addD st i.toNat b).trip = st.trip := rfl
  rw [et] at e
  have ew : writeD st i b = (if (tripsD (addD st i.toNat b)).1 = true then 9 else 0, (tripsD (addD st i.toNat b)).2) := by rw [writeD, if_neg (by simp [h0]), if_neg (by omega)]
  rw [ew]
  split
  · rename_i h
    rw [if_pos h] at e
    rw [e]
    exact ⟨rfl, rfl, rfl, crashSafe_length _ _ _ _ _⟩
  · rename_i h
    rw [if_neg h] at e
    rw [e]
    exact ⟨rfl, ho, rfl, rfl⟩

theorem pad_nil : padI [] = List.replicate 64 0 := by decide +kernel

theorem trips13_spec {w : World} {sy ks : Sl} {bs kl : List Bool} (hs : Els 1 BoolC w sy bs) (hk : Els 1 BoolC w ks kl) (n torn : Int) (hn : n ≤ 9223372036854775807) :
    CallsV Try.prog n_trystlaw13_DiskTrips #[.int .i64 n, .slice sy.a sy.len sy.cap, .slice ks.a ks.len ks.cap, .int .i64 torn] w fun v w' => v = .bool true ∧ Below w.heap.size w w' := by
  refine trystlaw13_DiskTrips.lift ?_
  unfold trystlaw13_DiskTrips.main
  have hsl := hs.len
  have hkl := hk.len
  refine cond_d (fun _ => ⟨rfl, Below.refl _ _⟩) fun h60 => cond_d (fun _ => ⟨rfl, Below.refl _ _⟩) fun h100 => ?_
  unfold trystlaw13_DiskTrips.c7
  have hK : ∀ w', Below w.heap.size w w' → BoolsR w' ks kl := fun w' hb => .of_els (hk.keep BoolC.stab hb)
  refine (new_spec (Sep.nil (Nat.le_refl w.heap.size)) 4 (by omega) (by omega)).mono ?_
  rintro _ w1 ⟨d, rfl, h1, hb1⟩
  refine ⟨_, _, rfl, cond_n (fun h => absurd rfl h) fun _ => cond_f' rfl ?_⟩
  unfold trystlaw13_DiskTrips.c6
  refine (trip_spec (keep := ⟨none, 0, 0⟩) (kl := []) h1 3 0 (by omega) (by simp) fun _ _ _ => BoolsR.nil).mono ?_
  rintro _ w2 ⟨rfl, h2, hb2⟩
  refine ⟨rfl, ?_⟩
  refine (trip_spec h2 n torn hn (by omega) fun w' hb _ => hK w' ((hb1.trans hb2).trans hb)).mono ?_
  rintro _ w3 ⟨rfl, h3, hb3⟩
  refine ⟨rfl, ?_⟩
  unfold trystlaw13_DiskTrips.l3
  refine ⟨fun t w' => ∃ k : Nat, t = k ∧ k ≤ bs.length ∧ ∃ st, Sep w.heap.size w' [diskA d st] ∧ Below w.heap.size w w' ∧ st.off = false ∧ st.safe.length = 4 ∧ Wf k st ∧ st.trip = armed n kl torn k, fun t _ => bs.length - t.toNat,
    ⟨0, rfl, Nat.zero_le _, _, h3, (hb1.trans hb2).trans hb3, rfl, rfl, ((Wf.new 4).tripD (by simp) 3 0).tripD (by omega) n torn, ?_⟩, ?_⟩
  · simp only [tripD, armed]
    by_cases h : n ≥ 1
    · rw [if_pos h, if_pos ⟨h, by omega⟩]; simp
    · rw [if_neg h, if_neg (by omega)]
  rintro _ w4 ⟨k, rfl, hkb, st, h4, hb4, hoff, hlen, hwf, htr⟩
  unfold trystlaw13_DiskTrips.b3
  refine cond_d (fun hlt => ?_) fun hge => ?_
  · have hlt' : k < bs.length := by omega
    -- behind the call
    have next : ∀ (e : Int) (st' : DS) (w5 : World), Sep w.heap.size w5 [diskA d st'] → Below w.heap.size w w5 → Wf (k + 1) st' →
        (if hitT st.trip = true then e = 9 ∧ st'.off = true ∧ st'.trip = none ∧ st'.safe.length = st.safe.length else e = 0 ∧ st'.off = false ∧ st'.trip = decT st.trip ∧ st'.safe.length = st.safe.length) →
        trystlaw13_DiskTrips.c5 (fun v w' => v = .bool true ∧ Below w.heap.size w w') (fun n0' syncs1' d9' i11' w' => (n0' = n ∧ syncs1' = sy ∧ d9' = some d ∧ ∃ k : Nat, i11' = k ∧ k ≤ bs.length ∧ ∃ st, Sep w.heap.size w' [diskA d st] ∧ Below w.heap.size w w' ∧ st.off = false ∧ st.safe.length = 4 ∧ Wf k st ∧ st.trip = armed n kl torn k) ∧ bs.length - i11'.toNat < bs.length - (k : Int).toNat) n sy (some d) k e w5 := by
      intro e st' w5 h5 hb5 hwf5 hcase
      unfold trystlaw13_DiskTrips.c5
      rw [htr, armed_hit] at hcase
      rw [inc (by omega)]
      refine cond_e (fun he => ?_) fun hne => ?_
      · have he' : (k : Int) + 1 = n := by omega
        rw [if_pos (decide_eq_true he')] at hcase
        obtain ⟨rfl, ho5, ht5, hl5⟩ := hcase
        refine cond_n (fun h => absurd rfl h) fun _ => ?_
        refine (off_spec h5).mono ?_
        rintro _ _ ⟨rfl, rfl⟩
        refine ⟨_, rfl, cond_f' (by rw [ho5]; rfl) ?_⟩
        refine (sync_spec h5 (hwf5.d (by omega))).mono ?_
        rintro _ w6 ⟨rfl, h6, hb6⟩
        have es : syncD st' = (9, st') := by rw [syncD, if_pos ho5]
        rw [es] at h6 ⊢
        refine ⟨_, rfl, cond_n (fun h => absurd rfl h) fun _ => ?_⟩
        refine (sector_spec (w := w6) Ints.nil).mono ?_
        rintro _ w7 ⟨s7, rfl, ho7, hb7⟩
        refine ⟨_, _, _, rfl, ?_⟩
        have h7 := h6.keep hb7
        have hI7 := ho7.ints (by rw [padI_len]; omega)
        have hd7 : Sep w.heap.size w7 (diskA d st' :: [rowA 5 1 s7 (padI []).length ((padI []).map (Value.int .u8))]) := (Sep.row h6 ho7 hb7).swap
        refine (write_spec (bs := padI []) hd7 (hwf5.d (by omega)) 0 (by rw [padI_len]; omega) fun w' _ hS => ?_).mono ?_
        · refine ⟨?_, ?_, fun i x hx => ?_⟩
          · have := (hS.rowLen 0 rfl).1; exact this
          · have := (hS.rowLen 0 rfl).1; rw [this, padI_len]; omega
          · obtain ⟨q, hq, hc⟩ := hS.rowCell 0 rfl (j := i) (by rw [List.length_map]; exact (List.getElem?_eq_some_iff.1 hx).1)
            have hv := hc i (.int .u8 x) (by rw [List.getElem?_map, hx]; rfl)
            refine ⟨q, hq, ?_, hv⟩
            have := World.block_lt_of_cell? _ _ hv
            rwa [add_block] at this
        · rintro _ w8 ⟨rfl, h8, hb8⟩
          have ew : writeD st' 0 (padI []) = (9, st') := by
            have : wrongD st' 0 = 9 := by rw [wrongD, if_pos ho5]
            rw [writeD, this, if_pos (by omega)]
          rw [ew] at h8 ⊢
          refine ⟨_, rfl, cond_n (fun h => absurd rfl h) fun _ => ?_⟩
          unfold trystlaw13_DiskTrips.c4
          refine (start_spec h8).mono ?_
          rintro _ w9 ⟨rfl, h9, hb9⟩
          refine ⟨rfl, ?_⟩
          rw [inc (by omega)]
          refine ⟨⟨rfl, rfl, rfl, k + 1, rfl, hlt', startD st', h9.swap.drop, ((hb5.trans hb6).next hb7 (Nat.le_refl _)).trans hb8 |>.trans hb9, rfl, by show st'.safe.length = 4; omega, hwf5.start, ?_⟩, by (try dsimp only); omega⟩
          rw [armed_gone _ _ _ _ he']; exact ht5
      · have he' : ¬ (k : Int) + 1 = n := by omega
        rw [if_neg (by rw [decide_eq_false he']; simp)] at hcase
        obtain ⟨rfl, ho5, ht5, hl5⟩ := hcase
        refine cond_n (fun h => absurd rfl h) fun _ => ?_
        refine (off_spec h5).mono ?_
        rintro _ _ ⟨rfl, rfl⟩
        refine ⟨_, rfl, cond_f' ho5 ?_⟩
        exact ⟨⟨rfl, rfl, rfl, k + 1, rfl, hlt', st', h5, hb5, ho5, by omega, hwf5, by rw [ht5, armed_dec _ _ _ _ he']⟩, by (try dsimp only); omega⟩
    obtain ⟨p, hp, hc⟩ := (BoolsR.of_els (hs.keep BoolC.stab hb4)).get (i := k) hlt
    refine ⟨by omega, hlt, p, hp, _, by rw [Int.toNat_natCast]; exact hc, cond_c (fun hb => ?_) fun hb => ?_⟩
    · refine (sync_spec h4 (hwf.d (by omega))).mono ?_
      rintro _ w5 ⟨rfl, h5, hb5⟩
      exact ⟨_, rfl, next _ _ _ h5 (hb4.trans hb5) (hwf.sync.mono (by omega)) (sync_armed hoff)⟩
    · refine ⟨by omega, ?_⟩
      intro w5
      obtain ⟨h5, hb5⟩ := Sep.box h4 [.int .u8 (IntKind.u8.wrap k)] 5
      have hI5 : Ints .u8 w5 ⟨some (newA w4), 1, 1⟩ [IntKind.u8.wrap k] := ⟨rfl, by simp only; omega, fun i x hx => by
        match i, hx with
        | 0, hx => simp at hx; subst hx; exact ⟨_, rfl, by rw [newA_block]; show w4.heap.size < (w4.alloc _).heap.size; rw [size_alloc]; omega, h5.cell 0 rfl 0 rfl⟩⟩
      refine (sector_spec hI5).mono ?_
      rintro _ w6 ⟨s6, rfl, ho6, hb6⟩
      refine ⟨_, _, _, rfl, ?_⟩
      have h6 := (Sep.row h5.drop ho6 hb6).swap
      rw [tmod_nn (by omega)]
      refine (write_spec h6 (hwf.d (by omega)) _ (bs := padI [IntKind.u8.wrap k]) (by rw [padI_len]; omega) fun w' _ hS => ?_).mono ?_
      · refine ⟨?_, ?_, fun i x hx => ?_⟩
        · have := (hS.rowLen 0 rfl).1; exact this
        · have := (hS.rowLen 0 rfl).1; rw [this, padI_len]; omega
        · obtain ⟨q, hq, hc⟩ := hS.rowCell 0 rfl (j := i) (by rw [List.length_map]; exact (List.getElem?_eq_some_iff.1 hx).1)
          have hv := hc i (.int .u8 x) (by rw [List.getElem?_map, hx]; rfl)
          refine ⟨q, hq, ?_, hv⟩
          have := World.block_lt_of_cell? _ _ hv
          rwa [add_block] at this
      · rintro _ w7 ⟨rfl, h7, hb7⟩
        exact ⟨_, rfl, next _ _ _ h7.swap.drop (((hb4.trans hb5).next hb6 (Nat.le_refl _)).trans hb7) (hwf.write _ _) (write_armed hoff (by omega) (padI_len _))⟩
  · unfold trystlaw13_DiskTrips.c2
    have hke : k ≤ 60 := by omega
    refine (trip_spec (keep := ⟨none, 0, 0⟩) (kl := []) h4 1 (-1) (by omega) (by simp) fun _ _ _ => BoolsR.nil).mono ?_
    rintro _ w5 ⟨rfl, h5, hb5⟩
    refine ⟨rfl, ?_⟩
    have hwf5 := hwf.tripD (keep := []) (by simp) 1 (-1)
    have e5 : tripD st 1 [] (-1) = { st with trip := some (1, [], -1) } := by rw [tripD, if_pos (by omega)]
    rw [e5] at h5 hwf5
    generalize hst5 : ({ st with trip := some (1, [], -1) } : DS) = st5 at *
    have ho5 : st5.off = false := by rw [← hst5]; exact hoff
    have hl5 : st5.safe.length = 4 := by rw [← hst5]; exact hlen
    have ht5 : st5.trip = some (1, [], -1) := by rw [← hst5]
    refine (sector_spec (w := w5) Ints.nil).mono ?_
    rintro _ w6 ⟨s6, rfl, ho6, hb6⟩
    refine ⟨_, _, _, rfl, ?_⟩
    have h6 := (Sep.row h5 ho6 hb6).swap
    refine (write_spec h6 (hwf5.d (by omega)) 9 (bs := padI []) (by rw [padI_len]; omega) fun w' _ hS => ?_).mono ?_
    · refine ⟨?_, ?_, fun i x hx => ?_⟩
      · have := (hS.rowLen 0 rfl).1; exact this
      · have := (hS.rowLen 0 rfl).1; rw [this, padI_len]; omega
      · obtain ⟨q, hq, hc⟩ := hS.rowCell 0 rfl (j := i) (by rw [List.length_map]; exact (List.getElem?_eq_some_iff.1 hx).1)
        have hv := hc i (.int .u8 x) (by rw [List.getElem?_map, hx]; rfl)
        refine ⟨q, hq, ?_, hv⟩
        have := World.block_lt_of_cell? _ _ hv
        rwa [add_block] at this
    · rintro _ w7 ⟨rfl, h7, hb7⟩
      have ew : writeD st5 9 (padI []) = (1, st5) := by
        have : wrongD st5 9 = 1 := by rw [wrongD, if_neg (by rw [ho5]; simp), if_pos (by omega)]
        rw [writeD, this, if_pos (by omega)]
      rw [ew] at h7 ⊢
      refine ⟨_, rfl, cond_n (fun h => absurd rfl h) fun _ => ?_⟩
      refine (write_spec (s := ⟨none, 0, 0⟩) (bs := []) h7.swap.drop (hwf5.d (by omega)) 0 (by simp) fun w' _ hS => Ints.nil).mono ?_
      rintro _ w8 ⟨rfl, h8, hb8⟩
      have ew : writeD st5 0 [] = (2, st5) := by
        have : wrongD st5 0 = 0 := by rw [wrongD, if_neg (by rw [ho5]; simp), if_neg (by omega)]
        rw [writeD, this, if_neg (by omega), if_pos (by simp)]
      rw [ew] at h8 ⊢
      refine ⟨_, rfl, cond_n (fun h => absurd rfl h) fun _ => ?_⟩
      refine (off_spec h8).mono ?_
      rintro _ _ ⟨rfl, rfl⟩
      refine ⟨_, rfl, cond_f' ho5 ?_⟩
      unfold trystlaw13_DiskTrips.c1
      refine (sync_spec h8 (hwf5.d (by omega))).mono ?_
      rintro _ w9 ⟨rfl, h9, hb9⟩
      have hsa := sync_armed ho5
      rw [ht5, if_pos (by decide)] at hsa
      obtain ⟨e9, o9, _, _⟩ := hsa
      refine ⟨_, rfl, cond_t (by rw [e9]; rfl) ?_⟩
      refine (off_spec h9).mono ?_
      rintro _ _ ⟨rfl, rfl⟩
      refine ⟨_, rfl, cond_t o9 ?_⟩
      refine (wakes13_spec w9).mono ?_
      rintro _ w10 ⟨rfl, hb10⟩
      exact ⟨_, rfl, rfl, (((((hb4.trans hb5).next hb6 (Nat.le_refl _)).trans hb7).trans hb8).trans hb9).next hb10 (Nat.le_refl _)⟩

end Go.Proofs.Ytnnpkjhpeefnbaa
