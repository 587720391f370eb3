/-
  DiskChoice: its contract.
-/
import Derived.Test.YtnnpkjhpeefnbaaDiE
set_option linter.unusedVariables false
set_option linter.unusedSimpArgs false
namespace Go.Proofs.Ytnnpkjhpeefnbaa
open Go.Lf Go.RowKit

theorem _root_.Go.Lf.Sep.rowInts {B : Nat} {w : World} {l : List Asn} (k : Nat) {e : TypeId} {s : Sl} {kd : IntKind} {xs : List Int} (hk : l[k]? = some (rowA e 1 s xs.length (xs.map (Value.int kd)))) (h : Sep B w l) (hx : xs.length ≤ 9223372036854775807) : Ints kd w s xs := by
  have hl := (h.rowLen k hk).1
  refine ⟨hl, by omega, fun i x hi => ?_⟩
  obtain ⟨q, hq, hc⟩ := h.rowCell k hk (j := i) (by rw [List.length_map]; exact (List.getElem?_eq_some_iff.1 hi).1)
  have hv := hc i (.int kd x) (by rw [List.getElem?_map, hi]; rfl)
  refine ⟨q, hq, ?_, hv⟩
  have := World.block_lt_of_cell? _ _ hv
  rwa [add_block] at this

theorem crashSafe_app (keep : List Bool) (torn : Int) (x : Nat × List Int) : ∀ (p : List (Nat × List Int)) (k : Nat) (s : List (Option (List Int))), crashSafe keep torn k (p ++ [x]) s =
    (if ((k + p.length : Nat) : Int) = torn then (crashSafe keep torn k p s).set x.1 none else if keep[k + p.length]?.getD false = true then (crashSafe keep torn k p s).set x.1 (some x.2) else crashSafe keep torn k p s)
  | [], k, s => by simp [crashSafe]
  | y :: r, k, s => by
    show crashSafe keep torn (k + 1) (r ++ [x]) _ = _
    rw [crashSafe_app keep torn x r (k + 1)]
    have e : k + 1 + r.length = k + (y :: r).length := by simp; omega
    rw [e]
    rfl

theorem pad_nil' : padI [] = List.replicate 64 0 := by decide +kernel
/-- what a number of 'want' says of a sector -/
def encW (v : Int) : Option (List Int) := if v < 0 then none else some (padI [v])
theorem enc_zero : encW 0 = some (List.replicate 64 0) := by decide +kernel
theorem pad_first (v : Int) : (padI [v])[0]?.getD 9 = v := rfl

theorem choice_write {st : DS} (ho : st.off = false) (ht : st.trip = none) {i : Nat} {b : List Int} (hi : i < st.safe.length) (hb : b.length = 64) : writeD st (i : Int) b = (0, addD st i b) := by
  have h0 : wrongD st (i : Int) = 0 := by rw [wrongD, if_neg (by rw [ho]; simp), if_neg (by omega)]
  have e : tripsD (addD st i b) = (false, addD st i b) := by
    have : (addD st i b).trip = none := ht
    rw [tripsD, this]
  rw [writeD, if_neg (by simp [h0]), if_neg (by omega), Int.toNat_natCast, e]
  rfl

theorem mod4u (x : Int) : ∃ i : Nat, IntKind.i64.wrap (Int.tmod (IntKind.u64.wrap x) 4) = i ∧ i < 4 := by
  have h0 : 0 ≤ IntKind.u64.wrap x := by rw [IntKind.wrap_u64]; omega
  rw [tmod_nn h0]
  refine ⟨(IntKind.u64.wrap x % 4).toNat, ?_, by omega⟩
  rw [w64 (by omega)]; omega

theorem byte_small {k : Nat} (h : k < 200) : IntKind.u8.wrap (((k + 1 : Nat) : Int)) = ((k + 1 : Nat) : Int) := by rw [IntKind.wrap_u8]; omega

theorem choice13_spec {w : World} {ps ks : Sl} {pl : List Int} {kl : List Bool} (hp : Ints .i64 w ps pl) (hk : Els 1 BoolC w ks kl) (torn : Int) :
    CallsV Try.prog n_trystlaw13_DiskChoice #[.slice ps.a ps.len ps.cap, .slice ks.a ks.len ks.cap, .int .i64 torn] w fun v w' => v = .bool true ∧ Below w.heap.size w w' := by
  refine trystlaw13_DiskChoice.lift ?_
  unfold trystlaw13_DiskChoice.main
  have hpl := hp.len
  have hkl := hk.len
  refine cond_d (fun _ => ⟨rfl, Below.refl _ _⟩) fun h60 => cond_d (fun _ => ⟨rfl, Below.refl _ _⟩) fun h100 => ?_
  unfold trystlaw13_DiskChoice.c9
  have hK : ∀ w', Below w.heap.size w w' → BoolsR w' ks kl := fun w' hb => .of_els (hk.keep BoolC.stab hb)
  refine (new_spec (Sep.nil (Nat.le_refl w.heap.size)) 4 (by omega) (by omega)).mono ?_
  rintro _ w1 ⟨d, rfl, h1, hb1⟩
  refine ⟨_, _, rfl, cond_n (fun h => absurd rfl h) fun _ => cond_f' rfl ?_⟩
  unfold trystlaw13_DiskChoice.c8
  refine ⟨by omega, by omega, by omega, by omega, ?_⟩
  have hmk := make_ints (w := w1) (n := 4) (e := 3) (k := .i64) (by unfold maxLen; omega)
  intro w2
  have hb2 : Below w1.heap.size w1 w2 := below_alloc _ _
  have h2 : Sep w.heap.size w2 (rowA 3 1 ⟨some (newA w1), 4, 4⟩ 4 (([0, 0, 0, 0] : List Int).map (Value.int .i64)) :: [diskA d (newD 4)]) := Sep.row (n := 4) h1 hmk hb2
  have hB2 := hb1.next hb2 (Nat.le_refl _)
  generalize hq0 : newA w1 = q0 at h2
  unfold trystlaw13_DiskChoice.l6
  refine ⟨fun t w' => ∃ k : Nat, t = k ∧ k ≤ pl.length ∧ ∃ (st : DS) (W : List Int), Sep w.heap.size w' [rowA 3 1 ⟨some q0, 4, 4⟩ 4 (W.map (Value.int .i64)), diskA d st] ∧ Below w.heap.size w w' ∧ st.off = false ∧ st.safe.length = 4 ∧ st.trip = none ∧ Wf k st ∧ st.pend.length = k ∧
      W.length = 4 ∧ crashSafe kl torn 0 st.pend st.safe = W.map encW ∧ (∀ v ∈ W, -1 ≤ v ∧ v ≤ 255), fun t _ => pl.length - t.toNat,
    ⟨0, rfl, Nat.zero_le _, _, [0, 0, 0, 0], h2, hB2, rfl, rfl, rfl, Wf.new 4, rfl, rfl, by simp only [List.map_cons, List.map_nil, enc_zero]; rfl, by intro v hv; simp at hv; omega⟩, ?_⟩
  rintro _ w4 ⟨k, rfl, hkb, st, W, h4, hb4, hoff, hlen, htr, hwf, hpk, hW, hC, hV⟩
  unfold trystlaw13_DiskChoice.b6
  refine cond_d (fun hlt => ?_) fun hge => ?_
  · have hlt' : k < pl.length := by omega
    obtain ⟨p, hpp, hc⟩ := (hp.keep hb4).get (i := (k : Int)) (by omega) hlt
    refine ⟨by omega, hlt, p, hpp, _, hc, by omega, ?_⟩
    generalize pl[(k : Int).toNat]?.getD 0 = xx
    obtain ⟨i, hi, hi4⟩ := mod4u xx
    rw [hi]
    intro i11
    have ei : i11 = (i : Int) := rfl
    clear_value i11; subst ei
    rw [inc (by omega), byte_small (by omega)]
    intro w5
    obtain ⟨h5, hb5⟩ := Sep.box h4 [.int .u8 ((k + 1 : Nat) : Int)] 5
    have hI5 : Ints .u8 w5 ⟨some (newA w4), 1, 1⟩ [((k + 1 : Nat) : Int)] := ⟨rfl, by simp only; omega, fun i x hx => by
      match i, hx with
      | 0, hx => simp at hx; subst hx; exact ⟨_, rfl, by rw [newA_block]; show w4.heap.size < (w4.alloc _).heap.size; rw [size_alloc]; omega, h5.cell 0 rfl 0 rfl⟩⟩
    refine (sector_spec hI5).mono ?_
    rintro _ w6 ⟨s6, rfl, ho6, hb6⟩
    refine ⟨_, _, _, rfl, ?_⟩
    have h6 := Sep.row h5.drop ho6 hb6
    have h6' := h6.front 2 rfl
    refine (write_spec (bs := padI [((k + 1 : Nat) : Int)]) h6' (hwf.d (by omega)) _ (by rw [padI_len]; omega) fun w' _ hS => hS.rowInts 0 rfl (by rw [padI_len]; omega)).mono ?_
    rintro _ w7 ⟨rfl, h7, hb7⟩
    have ew := choice_write (b := padI [((k + 1 : Nat) : Int)]) hoff htr (i := i) (by omega) (padI_len _)
    rw [ew] at h7 ⊢
    refine ⟨_, rfl, cond_n (fun h => absurd rfl h) fun _ => ?_⟩
    have h7' : Sep w.heap.size w7 [rowA 3 1 ⟨some q0, 4, 4⟩ 4 (W.map (Value.int .i64)), diskA d (addD st i (padI [((k + 1 : Nat) : Int)]))] := (h7.front 2 rfl).drop.drop |> fun _ => ((h7.swap.drop).swap)
    have hB7 := ((hb4.trans hb5).next hb6 (Nat.le_refl _)).trans hb7
    have hCn : ∀ u : Int, -1 ≤ u → u ≤ 255 → (if (k : Int) = torn then (W.map encW).set i none else if kl[k]?.getD false = true then (W.map encW).set i (some (padI [((k + 1 : Nat) : Int)])) else W.map encW) = (W.map encW).set i (encW u) →
        crashSafe kl torn 0 (addD st i (padI [((k + 1 : Nat) : Int)])).pend (addD st i (padI [((k + 1 : Nat) : Int)])).safe = (W.set i u).map encW := by
      intro u _ _ hu
      show crashSafe kl torn 0 (st.pend ++ [_]) st.safe = _
      rw [crashSafe_app, hC, List.map_set]
      simpa [hpk] using hu
    have set1 : ∀ u : Int, -1 ≤ u → u ≤ 255 → (if (k : Int) = torn then (W.map encW).set i none else if kl[k]?.getD false = true then (W.map encW).set i (some (padI [((k + 1 : Nat) : Int)])) else W.map encW) = (W.map encW).set i (encW u) →
        0 ≤ (i : Int) ∧ (i : Int) < ((4 : Nat) : Int) ∧ ∃ q_49 : Addr, some q0 = some q_49 ∧ Wr w7 (q_49.add (i : Int).toNat) ∧
        (some q0 = some q_49 → (∃ k' : Nat, ((k + 1 : Nat) : Int) = k' ∧ k' ≤ pl.length ∧ ∃ (st : DS) (W : List Int), Sep w.heap.size (w7.setCell (q_49.add (i : Int).toNat) (.int .i64 u)) [rowA 3 1 ⟨some q0, 4, 4⟩ 4 (W.map (Value.int .i64)), diskA d st] ∧ Below w.heap.size w (w7.setCell (q_49.add (i : Int).toNat) (.int .i64 u)) ∧ st.off = false ∧ st.safe.length = 4 ∧ st.trip = none ∧ Wf k' st ∧ st.pend.length = k' ∧
          W.length = 4 ∧ crashSafe kl torn 0 st.pend st.safe = W.map encW ∧ (∀ v ∈ W, -1 ≤ v ∧ v ≤ 255)) ∧ pl.length - (((k + 1 : Nat) : Int)).toNat < pl.length - (k : Int).toNat) := by
      intro u hu1 hu2 hu
      obtain ⟨h8, hb8⟩ := h7'.rowSet 0 rfl (q := q0) rfl (j := i) (by rw [List.length_map]; omega) (.int .i64 u)
      refine ⟨by omega, by omega, q0, rfl, by rw [Int.toNat_natCast]; exact h7'.rowWr 0 rfl rfl (by rw [List.length_map]; omega), fun _ => ⟨⟨k + 1, rfl, hlt', addD st i (padI [((k + 1 : Nat) : Int)]), W.set i u, ?_, by rw [Int.toNat_natCast]; exact hB7.trans hb8, hoff, hlen, htr, ?_, ?_, by rw [List.length_set, hW], hCn u hu1 hu2 hu, ?_⟩, by omega⟩⟩
      · rw [Int.toNat_natCast, List.map_set]; exact h8
      · have := hwf.pend
        exact ⟨by simp [addD]; omega, hwf.keep⟩
      · simp [addD, hpk]
      · intro v hv
        rcases List.mem_or_eq_of_mem_set hv with hv | rfl
        · exact hV v hv
        · exact ⟨hu1, hu2⟩
    have idle : (if (k : Int) = torn then (W.map encW).set i none else if kl[k]?.getD false = true then (W.map encW).set i (some (padI [((k + 1 : Nat) : Int)])) else W.map encW) = W.map encW →
        (∃ k' : Nat, ((k + 1 : Nat) : Int) = k' ∧ k' ≤ pl.length ∧ ∃ (st : DS) (W : List Int), Sep w.heap.size w7 [rowA 3 1 ⟨some q0, 4, 4⟩ 4 (W.map (Value.int .i64)), diskA d st] ∧ Below w.heap.size w w7 ∧ st.off = false ∧ st.safe.length = 4 ∧ st.trip = none ∧ Wf k' st ∧ st.pend.length = k' ∧
          W.length = 4 ∧ crashSafe kl torn 0 st.pend st.safe = W.map encW ∧ (∀ v ∈ W, -1 ≤ v ∧ v ≤ 255)) ∧ pl.length - (((k + 1 : Nat) : Int)).toNat < pl.length - (k : Int).toNat := by
      intro hu
      refine ⟨⟨k + 1, rfl, hlt', addD st i (padI [((k + 1 : Nat) : Int)]), W, h7', hB7, hoff, hlen, htr, ?_, by simp [addD, hpk], hW, ?_, hV⟩, by omega⟩
      · have := hwf.pend
        exact ⟨by simp [addD]; omega, hwf.keep⟩
      · show crashSafe kl torn 0 (st.pend ++ [_]) st.safe = _
        rw [crashSafe_app, hC]
        simpa [hpk] using hu
    refine cond_e (fun ht => ?_) fun hnt => ?_
    · obtain ⟨g1, g2, q, g3, g4, g5⟩ := set1 (-1) (by omega) (by omega) (by rw [if_pos ht]; rfl)
      refine ⟨g1, g2, q, g3, g4, ?_⟩
      obtain ⟨g6, g7⟩ := g5 g3
      exact ⟨⟨rfl, rfl, rfl, rfl, rfl, g6⟩, g7⟩
    · refine cond_d (fun hkk => ?_) fun hkk => ?_
      · obtain ⟨p2, hp2, hc2⟩ := (hK w7 hB7).get (i := k) hkk
        refine ⟨by omega, hkk, p2, hp2, _, by rw [Int.toNat_natCast]; exact hc2, cond_c (fun hb => ?_) fun hb => ?_⟩
        · unfold trystlaw13_DiskChoice.c7
          rw [inc (by omega)]
          obtain ⟨g1, g2, q, g3, g4, g5⟩ := set1 ((k + 1 : Nat) : Int) (by omega) (by omega) (by rw [if_neg hnt, if_pos hb, encW, if_neg (by omega)])
          refine ⟨g1, g2, q, g3, g4, ?_⟩
          obtain ⟨g6, g7⟩ := g5 g3
          exact ⟨⟨rfl, rfl, rfl, rfl, rfl, g6⟩, g7⟩
        · obtain ⟨g6, g7⟩ := idle (by rw [if_neg hnt, if_neg (by rw [hb]; simp)])
          exact ⟨⟨rfl, rfl, rfl, rfl, rfl, g6⟩, g7⟩
      · obtain ⟨g6, g7⟩ := idle (by rw [if_neg hnt, List.getElem?_eq_none (by omega), if_neg (by simp)])
        exact ⟨⟨rfl, rfl, rfl, rfl, rfl, g6⟩, g7⟩
  · unfold trystlaw13_DiskChoice.c5
    refine (crash_spec (kl := kl) h4.swap torn (by omega) fun w' hb _ => hK w' (hb4.trans hb)).mono ?_
    rintro _ w5 ⟨rfl, h5, hb5⟩
    refine ⟨rfl, ?_⟩
    have e5 : crashD st kl torn = ⟨W.map encW, [], true, none⟩ := by rw [crashD, if_neg (by rw [hoff]; simp), hC]
    rw [e5] at h5
    refine (read_spec h5 0).mono ?_
    rintro _ w6 ⟨s6, rfl, hI6, h6, hb6⟩
    refine ⟨_, _, _, _, rfl, ?_⟩
    have h6 := h6.drop
    refine (off_spec h6).mono ?_
    rintro _ _ ⟨rfl, rfl⟩
    refine ⟨_, rfl, cond_f' rfl (cond_n (fun h => absurd rfl h) fun _ => ?_)⟩
    unfold trystlaw13_DiskChoice.c4
    refine (start_spec h6).mono ?_
    rintro _ w7 ⟨rfl, h7, hb7⟩
    refine ⟨rfl, ?_⟩
    have h7 : Sep w.heap.size w7 (diskA d ⟨W.map encW, [], false, none⟩ :: _) := h7
    unfold trystlaw13_DiskChoice.l2
    refine ⟨fun t w' => ∃ k : Nat, t = k ∧ k ≤ 4 ∧ ∃ st : DS, Sep w.heap.size w' [rowA 3 1 ⟨some q0, 4, 4⟩ 4 (W.map (Value.int .i64)), diskA d st] ∧ Below w.heap.size w w' ∧ st.off = false ∧ st.safe = W.map encW ∧ st.trip = none ∧ Wf k st ∧ (∀ p ∈ st.pend, p.1 < k), fun t _ => 4 - t.toNat,
      ⟨0, rfl, by omega, _, h7.swap, ((hb4.trans hb5).next hb6 (Nat.le_refl _)).trans hb7, rfl, rfl, rfl, ⟨Nat.zero_le _, fun t ht => by cases ht⟩, fun p hp => by cases hp⟩, ?_⟩
    rintro _ w8 ⟨k2, rfl, hk4, st8, h8, hb8, ho8, hs8, ht8, hwf8, hp8⟩
    unfold trystlaw13_DiskChoice.b2
    refine cond_d (fun hlt4 => ?_) fun hge4 => ?_
    · have hk4' : k2 < 4 := by omega
      have hWk : k2 < W.length := by omega
      have now_ge : ∀ (p : List (Nat × List Int)) (s : List (Option (List Int))), (∀ y ∈ p, y.1 < k2) → (nowOf s p)[k2]? = s[k2]? := by
        intro p
        induction p with
        | nil => intro s _; rfl
        | cons y r ih =>
          intro s hy
          show (nowOf (s.set y.1 (some y.2)) r)[k2]? = _
          rw [ih _ fun z hz => hy z (List.mem_cons_of_mem _ hz), List.getElem?_set_ne (by have := hy y List.mem_cons_self; omega)]
      have h0 : wrongD st8 (k2 : Int) = 0 := by rw [wrongD, if_neg (by rw [ho8]; simp), if_neg (by rw [hs8, List.length_map]; omega)]
      have hr : readD st8 (k2 : Int) = match encW W[k2] with | none => ([], 10) | some b => (b, 0) := by
        rw [readD, if_neg (by simp [h0]), Int.toNat_natCast, now_ge _ _ hp8, hs8, List.getElem?_map, List.getElem?_eq_getElem hWk]; rfl
      have hV2 := hV _ (List.getElem_mem hWk)
      refine (read_spec h8.swap (k2 : Int)).mono ?_
      rintro _ w9 ⟨s9, rfl, hI9, h9, hb9⟩
      refine ⟨_, _, _, _, rfl, by omega, by show (k2 : Int) < 4; omega, q0, rfl, W[k2], ?_, ?_⟩
      · obtain ⟨q, hq, hc⟩ := h9.rowCell 2 rfl (j := k2) (by rw [List.length_map]; omega)
        have hq : some q0 = some q := hq
        obtain rfl := Option.some.inj hq
        rw [Int.toNat_natCast]
        exact hc k2 _ (by rw [List.getElem?_map, List.getElem?_eq_getElem hWk]; rfl)
      have hB9 := hb8.next hb9 (Nat.le_refl _)
      refine cond_d (fun hneg => ?_) fun hnn => ?_
      · have hr' : readD st8 (k2 : Int) = ([], 10) := by rw [hr, encW, if_pos hneg]
        rw [hr'] at hI9 ⊢
        have hl9 := hI9.len
        refine cond_n (fun h => absurd rfl h) fun _ => cond_d (fun h => by simp at hl9; omega) fun _ => ?_
        refine (sector_spec (w := w9) Ints.nil).mono ?_
        rintro _ w10 ⟨s10, rfl, ho10, hb10⟩
        refine ⟨_, _, _, rfl, ?_⟩
        have h10 := (Sep.row h9.drop ho10 hb10).swap
        refine (write_spec (bs := padI []) h10 (hwf8.d (by omega)) _ (by rw [padI_len]; omega) fun w' _ hS => hS.rowInts 0 rfl (by rw [padI_len]; omega)).mono ?_
        rintro _ w11 ⟨rfl, h11, hb11⟩
        have ew := choice_write (b := padI []) ho8 ht8 (i := k2) (by rw [hs8, List.length_map]; omega) (padI_len _)
        rw [ew] at h11 ⊢
        refine ⟨_, rfl, cond_n (fun h => absurd rfl h) fun _ => ?_⟩
        unfold trystlaw13_DiskChoice.c3
        have h11' := h11.swap.drop
        have hr2 : readD (addD st8 k2 (padI [])) (k2 : Int) = (padI [], 0) := by
          have h0' : wrongD (addD st8 k2 (padI [])) (k2 : Int) = 0 := h0
          rw [readD, if_neg (by simp [h0']), Int.toNat_natCast, show nowOf (addD st8 k2 (padI [])).safe (addD st8 k2 (padI [])).pend = (nowOf st8.safe st8.pend).set k2 (some (padI [])) from nowOf_app _ _ _ _, List.getElem?_set_self (by rw [nowOf_length, hs8, List.length_map]; omega)]; rfl
        refine (read_spec h11' (k2 : Int)).mono ?_
        rintro _ w12 ⟨s12, rfl, hI12, h12, hb12⟩
        rw [hr2] at hI12 ⊢
        have hl12 := hI12.len
        rw [padI_len] at hl12
        obtain ⟨p, ep, cp⟩ := hI12.get (i := 0) (by omega) (by omega)
        refine ⟨_, _, _, _, rfl, cond_n (fun h => absurd rfl h) fun _ => ⟨by omega, by omega, p, ep, _, cp, cond_n (fun h => absurd ?_ h) fun _ => ?_⟩⟩
        · rw [pad_nil']; rfl
        rw [inc (by omega)]
        refine ⟨⟨rfl, rfl, k2 + 1, rfl, hk4', addD st8 k2 (padI []), h12.drop.swap, (((hB9.next hb10 (Nat.le_refl _)).trans hb11)).next hb12 (Nat.le_refl _), ho8, hs8, ht8, ?_, ?_⟩, by (try dsimp only); omega⟩
        · have := hwf8.pend
          exact ⟨by simp [addD]; omega, hwf8.keep⟩
        · intro y hy
          rcases List.mem_append.1 hy with hy | hy
          · have := hp8 y hy; omega
          · simp at hy; subst hy; simp only; omega
      · have hr' : readD st8 (k2 : Int) = (padI [W[k2]], 0) := by rw [hr, encW, if_neg hnn]
        rw [hr'] at hI9 ⊢
        have hl9 := hI9.len
        rw [padI_len] at hl9
        obtain ⟨p, ep, cp⟩ := hI9.get (i := 0) (by omega) (by omega)
        have hfirst : (padI [W[k2]])[(0 : Int).toNat]?.getD 0 = W[k2] := rfl
        rw [hfirst] at cp
        refine cond_n (fun h => absurd rfl h) fun _ => ⟨by omega, by omega, p, ep, _, cp, by omega, by show (k2 : Int) < 4; omega, q0, rfl, W[k2], ?_, cond_n (fun h => absurd ?_ h) fun _ => ?_⟩
        · obtain ⟨q, hq, hc⟩ := h9.rowCell 2 rfl (j := k2) (by rw [List.length_map]; omega)
          have hq : some q0 = some q := hq
          obtain rfl := Option.some.inj hq
          rw [Int.toNat_natCast]
          exact hc k2 _ (by rw [List.getElem?_map, List.getElem?_eq_getElem hWk]; rfl)
        · exact w64 (by omega)
        rw [inc (by omega)]
        exact ⟨⟨rfl, rfl, k2 + 1, rfl, hk4', st8, h9.drop.swap.drew, hB9.trans ((Same.drew w9).below _), ho8, hs8, ht8, hwf8.mono (by omega), fun y hy => by have := hp8 y hy; omega⟩, by (try dsimp only); omega⟩
    · unfold trystlaw13_DiskChoice.c1
      refine (wakes13_spec w8).mono ?_
      rintro _ w9 ⟨rfl, hb9⟩
      exact ⟨_, rfl, rfl, hb8.next hb9 (Nat.le_refl _)⟩

end Go.Proofs.Ytnnpkjhpeefnbaa
