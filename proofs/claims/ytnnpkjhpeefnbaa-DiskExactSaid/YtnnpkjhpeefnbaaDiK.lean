/-
  Disk: the page's disk: writes, syncs, what is armed, and new ones: contracts.
-/
import Derived.Test.YtnnpkjhpeefnbaaDiJ
set_option linter.unusedVariables false
set_option linter.unusedSimpArgs false
namespace Go.Proofs.Ytnnpkjhpeefnbaa
open Go.Lf Go.RowKit

theorem rcrash_spec {B : Nat} {w : World} {r : Addr} {st : DS} {R : List Asn} (h : Sep B w (refA r st :: R)) {keep : Sl} {kl : List Bool} (torn : Int) (hpl : st.pend.length ≤ 1000000)
    (hk : ∀ w', Below B w w' → BoolsR w' keep kl) :
    CallsV Try.prog n_trystref10_Disk_Crash #[.pointer (some r), .slice keep.a keep.len keep.cap, .int .i64 torn] w fun v w' => v = .tuple #[] ∧ Sep B w' (refA r (crashD st kl torn) :: R) ∧ Below B w w' := by
  obtain ⟨x, hx, hS⟩ := h.unfold
  exact rcrash_core hx hS torn hpl fun w' S T hb hS' => hk w' hb

theorem twinBools_spec {w : World} {s : Sl} {bs : List Bool} (h : BoolsR w s bs) (hx : bs.length ≤ 1000000000) :
    CallsV Try.prog n_trystkeep_TwinBools #[.slice s.a s.len s.cap] w fun v w' => ∃ s' : Sl, v = .slice s'.a s'.len s'.cap ∧ w'.ownsRow w.heap.size 4 1 (.slice s'.a s'.len s'.cap) bs.length (bs.map Value.bool) ∧ Below w.heap.size w w' := by
  refine trystkeep_TwinBools.lift ?_
  unfold trystkeep_TwinBools.main
  obtain ⟨i, hi, hz, hsz, hby⟩ := t4
  obtain ⟨s', w', hr, _, ho, hb⟩ := twin_go (ty := 46) Try.underlying46 hi hz hsz hby rfl (by omega) (w := w) (s := s) (m := bs.length) (news := bs.map Value.bool) h.len (by simp) (fun a ha j u hu => by
    rw [List.getElem?_map, Option.map_eq_some_iff] at hu
    obtain ⟨b, hb, rfl⟩ := hu
    obtain ⟨p, hp, hc⟩ := h.cell j b hb
    rw [ha] at hp
    obtain rfl := Option.some.inj hp
    exact hc) (fun ha => by
      cases bs with
      | nil => rfl
      | cons y r => obtain ⟨p, hp, _⟩ := h.cell 0 y rfl; rw [ha] at hp; cases hp) (by intro u hu; simp at hu; rcases hu with ⟨_, rfl⟩ | ⟨_, rfl⟩ <;> rfl) (by unfold maxLen; omega) (by omega)
  exact ⟨_, _, _, _, hr, s', rfl, ho, hb⟩

theorem twin_spec {w : World} {s : Sl} {xs : List Int} (h : Ints .u8 w s xs) (hx : xs.length ≤ 1000000000) :
    CallsV Try.prog n_trystkeep_Twin #[.slice s.a s.len s.cap] w fun v w' => ∃ s' : Sl, v = .slice s'.a s'.len s'.cap ∧ OwnI w.heap.size 5 .u8 w' s' xs ∧ Below w.heap.size w w' := by
  refine trystkeep_Twin.lift ?_
  unfold trystkeep_Twin.main
  obtain ⟨i, hi, hz, hsz, hby⟩ := t5
  obtain ⟨s', w', hr, ho, hb⟩ := append_all (ty := 52) Try.underlying52 hi hz hsz hby rfl h (by unfold maxLen; omega) (by omega)
  exact ⟨_, _, _, _, hr, s', rfl, ho, hb⟩

theorem rtrip_spec {B : Nat} {w : World} {r : Addr} {st : DS} {R : List Asn} (h : Sep B w (refA r st :: R)) {keep : Sl} {kl : List Bool} (n torn : Int) (hn : n ≤ 9223372036854775807) (hkl : kl.length ≤ 1000000000) (hk : BoolsR w keep kl) :
    CallsV Try.prog n_trystref10_Disk_Trip #[.pointer (some r), .int .i64 n, .slice keep.a keep.len keep.cap, .int .i64 torn] w fun v w' => v = .tuple #[] ∧ Sep B w' (refA r (tripD st n kl torn) :: R) ∧ Below B w w' := by
  obtain ⟨x, hx, hS⟩ := h.unfold
  refine trystref10_Disk_Trip.lift ?_
  unfold trystref10_Disk_Trip.main
  refine (twinBools_spec hk hkl).mono ?_
  rintro _ w1 ⟨ks, rfl, ho, hb1⟩
  have h1 := Sep.swapIn (l := rl r x st.off ++ R) 4 (by simp [rl]) (Sep.row hS ho hb1)
  obtain ⟨h2, hb2⟩ := h1.set 0 rfl (j := 4) (by simp) (.int .i64 (if 0 > n then 0 else n))
  obtain ⟨h3, hb3⟩ := h2.set 0 rfl (j := 5) (by simp) (.slice ks.a ks.len ks.cap)
  obtain ⟨h4, hb4⟩ := h3.set 0 rfl (j := 6) (by simp) (.int .i64 torn)
  refine ⟨_, _, _, rfl, r, rfl, h1.wr 0 rfl (j := 4) (by simp), r, rfl, h2.wr 0 rfl (j := 5) (by simp), r, rfl, h3.wr 0 rfl (j := 6) (by simp), rfl, ?_, (((hb1.mono h.le).trans hb2).trans hb3).trans hb4⟩
  refine Sep.fold { x with sK := ks, kl := kl, armed := if 0 > n then 0 else n, tear := torn } ⟨hx.safe, hx.lenT, hx.pend, hx.inS, hx.inW, ?_, ?_, hx.few⟩ h4
  · simp only [tripD]
    by_cases h1 : n ≥ 1
    · rw [if_pos h1, if_neg (show ¬ 0 > n by omega), if_pos (by omega)]
    · rw [if_neg h1]
      by_cases h2 : 0 > n
      · rw [if_pos h2, if_neg (by omega)]
      · rw [if_neg h2, if_neg (by omega)]
  · simp only
    split <;> omega

theorem rtrips_core {B : Nat} {w : World} {r : Addr} {x : RC} {st : DS} {R : List Asn} (hx : ROk x st) (hoff : st.off = false) (hS : Sep B w (rl r x st.off ++ R)) (hpl : st.pend.length ≤ 1000000) :
    CallsV Try.prog n_trystref10_Disk_trips #[.pointer (some r)] w fun v w' => v = .bool (tripsD st).1 ∧ Sep B w' (refA r (tripsD st).2 :: R) ∧ Below B w w' := by
  refine trystref10_Disk_trips.lift ?_
  unfold trystref10_Disk_trips.main
  refine ⟨r, rfl, _, hS.cell 0 rfl 4 rfl, cond_d (fun h0 => ?_) fun h0 => ?_⟩
  · have ht : st.trip = some (x.armed, x.kl, x.tear) := by rw [hx.trip, if_pos h0]
    have hsm := hx.small
    have e1 : IntKind.i64.wrap (x.armed - 1) = x.armed - 1 := w64 (by omega)
    obtain ⟨h1, hb1⟩ := hS.set 0 rfl (j := 4) (by simp) (.int .i64 (x.armed - 1))
    refine ⟨r, rfl, _, hS.cell 0 rfl 4 rfl, r, rfl, hS.wr 0 rfl (j := 4) (by simp), ?_⟩
    rw [e1]
    refine ⟨r, rfl, _, h1.cell 0 rfl 4 rfl, ?_⟩
    have hx' : ROk { x with armed := x.armed - 1 } { st with trip := if x.armed - 1 > 0 then some (x.armed - 1, x.kl, x.tear) else none } := ⟨hx.safe, hx.lenT, hx.pend, hx.inS, hx.inW, rfl, by simp only; omega, hx.few⟩
    have h1' : Sep B (w.setCell (r.add 4) (.int .i64 (x.armed - 1))) (rl r { x with armed := x.armed - 1 } st.off ++ R) := h1
    have et := tripsD_eq hoff
    rw [ht] at et
    refine cond_e (fun hz => ?_) fun hnz => ?_
    · have hh : hitT (some (x.armed, x.kl, x.tear)) = true := by simp [hitT]; omega
      rw [if_pos hh] at et
      rw [et]
      refine ⟨fun u => u = (w.setCell (r.add 4) (.int .i64 (x.armed - 1))).drew, rfl, r, rfl, _, _, _, fun u hu => by rw [hu]; exact h1.cell 0 rfl 5 rfl, r, rfl, _, fun u hu => by rw [hu]; exact h1.cell 0 rfl 6 rfl, ?_⟩
      refine (rcrash_core (kl := x.kl) hx' h1'.drew x.tear hpl fun w' S T _ hS' => ?_).mono ?_
      · have hl := (hS'.rowLen 4 rfl).1
        refine ⟨hl, fun i b hib => ?_⟩
        obtain ⟨p, hp, hc⟩ := hS'.rowCell 4 rfl (j := i) (by rw [List.length_map]; exact (List.getElem?_eq_some_iff.1 hib).1)
        exact ⟨p, hp, hc i _ (by rw [List.getElem?_map, hib]; rfl)⟩
      · rintro _ w' ⟨rfl, hS', hb'⟩
        refine ⟨rfl, rfl, ?_, (hb1.trans ((Same.drew _).below B)).trans hb'⟩
        have ec : crashD { st with trip := if x.armed - 1 > 0 then some (x.armed - 1, x.kl, x.tear) else none } x.kl x.tear = ⟨crashSafe x.kl x.tear 0 st.pend st.safe, [], true, none⟩ := by
          rw [crashD, if_neg (by simp only [hoff]; simp)]
        rw [ec] at hS'
        exact hS'
    · have hh : hitT (some (x.armed, x.kl, x.tear)) = false := by simp [hitT]; omega
      rw [if_neg (by rw [hh]; simp)] at et
      rw [et]
      refine ⟨rfl, ?_, hb1⟩
      have : ROk { x with armed := x.armed - 1 } { st with trip := decT (some (x.armed, x.kl, x.tear)) } := ⟨hx.safe, hx.lenT, hx.pend, hx.inS, hx.inW, by simp only [decT]; rw [if_pos (by omega)], by simp only; omega, hx.few⟩
      exact Sep.fold _ this h1'
  · have ht : st.trip = none := by rw [hx.trip, if_neg h0]
    have et : tripsD st = (false, st) := by rw [tripsD, ht]
    rw [et]
    exact ⟨rfl, Sep.fold x hx hS, Below.refl _ _⟩

theorem rsync_spec {B : Nat} {w : World} {r : Addr} {st : DS} {R : List Asn} (h : Sep B w (refA r st :: R)) (hpl : st.pend.length ≤ 1000000) :
    CallsV Try.prog n_trystref10_Disk_Sync #[.pointer (some r)] w fun v w' => v = .int .i64 (syncD st).1 ∧ Sep B w' (refA r (syncD st).2 :: R) ∧ Below B w w' := by
  obtain ⟨x, hx, hS⟩ := h.unfold
  refine trystref10_Disk_Sync.lift ?_
  unfold trystref10_Disk_Sync.main
  refine ⟨r, rfl, st.off, hS.cell 0 rfl 3 rfl, cond_c (fun ho => ⟨by rw [syncD, if_pos ho], by rw [syncD, if_pos ho]; exact h, Below.refl _ _⟩) fun ho => ?_⟩
  refine (rtrips_core hx ho hS hpl).mono ?_
  rintro _ w0 ⟨rfl, h0, hb0⟩
  refine ⟨_, rfl, cond_c (fun ht => ⟨by rw [syncD, if_neg (by rw [ho]; simp), if_pos ht], by rw [syncD, if_neg (by rw [ho]; simp), if_pos ht]; exact h0, hb0⟩) fun ht => ?_⟩
  rw [syncD, if_neg (by rw [ho]; simp), if_neg (by rw [ht]; simp)]
  have hp0 : (tripsD st).2.pend.length ≤ 1000000 := by
    rw [tripsD_eq ho]
    split
    · exact Nat.zero_le _
    · exact hpl
  have hle := h.le
  clear hpl hx hS h ho ht x
  generalize (tripsD st).2 = st at *
  obtain ⟨x, hx, hS⟩ := h0.unfold
  unfold trystref10_Disk_Sync.c3 trystref10_Disk_Sync.l2
  have hlW := (hS.rowLen 3 rfl).1
  have hsl := hx.lenS
  have hpW : st.pend.length = x.W.length := by rw [hx.pend, List.length_map]
  refine ⟨fun t w' => ∃ k : Nat, t = k ∧ k ≤ x.W.length ∧ ∃ (S : List (Sl × List Int)) (T : List Bool), S.length = x.S.length ∧ T.length = S.length ∧ (∀ y ∈ S, y ∈ x.L) ∧ nowOf st.safe st.pend = nowOf (safeR T S) (st.pend.drop k) ∧
    Sep B w' (rl r { x with S := S, T := T } st.off ++ R) ∧ Below B w w', fun t _ => x.W.length - t.toNat, ⟨0, rfl, Nat.zero_le _, x.S, x.T, rfl, hx.lenT, hx.inS, by rw [hx.safe]; rfl, hS, hb0⟩, ?_⟩
  rintro _ w1 ⟨k, rfl, hkl, S, T, hSl, hTl, hSL, hcs, hS, hb⟩
  unfold trystref10_Disk_Sync.b2
  refine ⟨r, rfl, _, _, _, hS.cell 0 rfl 2 rfl, cond_d (fun hlt => ?_) fun hge => ?_⟩
  · have hkW : k < x.W.length := by have : (k : Int) < (x.sW.len : Int) := hlt; omega
    obtain ⟨y, hy⟩ : ∃ y, x.W[k]? = some y := ⟨_, List.getElem?_eq_getElem hkW⟩
    obtain ⟨hyL, hyi⟩ := hx.inW y (List.mem_of_getElem? hy)
    have hyP : st.pend[k]? = some y.val := by rw [hx.pend, List.getElem?_map, hy]; rfl
    obtain ⟨q, hq, hc⟩ := hS.rowGet 3 (by omega) Wt.w rfl hy
    have hc0 := hc 0 _ rfl
    rw [add_zero] at hc0
    have hlS := (hS.rowLen 1 rfl).1
    have hlT := (hS.rowLen 2 rfl).1
    have hlS' : x.sS.len = S.length := hlS
    have hlT' : x.sT.len = T.length := hlT
    have hyS : y.i < S.length := by omega
    obtain ⟨qT, hqT, _⟩ := hS.rowCell 2 rfl (j := y.i) (by rw [List.length_map]; show y.i < T.length; omega)
    obtain ⟨qS, hqS, _⟩ := hS.rowCell 1 rfl (j := y.i) (by rw [List.length_map]; exact hyS)
    have hqT' : x.sT.a = some qT := hqT
    have hqS' : x.sS.a = some qS := hqS
    have hq' : x.sW.a = some q := hq
    obtain ⟨h2, hb2⟩ := hS.drew.rowSet 1 rfl hqS' (j := y.i) (by rw [List.length_map]; exact hyS) (.slice y.s.a y.s.len y.s.cap)
    have h2' : Sep B (w1.drew.setCell (qS.add y.i) (.slice y.s.a y.s.len y.s.cap)) (rl r { x with S := S.set y.i (y.s, y.xs), T := T } st.off ++ R) := by
      unfold rl at h2 ⊢
      simp only [List.cons_append, List.set_cons_succ, List.set_cons_zero, List.length_set, List.map_set] at h2 ⊢
      exact h2
    obtain ⟨h3, hb3⟩ := h2'.rowSet 2 rfl hqT' (j := y.i) (by rw [List.length_map]; show y.i < T.length; omega) (.bool false)
    refine ⟨fun u => u = w1.drew, rfl, r, rfl, _, _, _, fun u hu => by rw [hu]; exact hS.cell0 0 rfl rfl, r, rfl, _, _, _, fun u hu => by rw [hu]; exact hS.cell 0 rfl 2 rfl, by omega, hlt, q, hq', _, fun u hu => by rw [hu, Int.toNat_natCast]; exact hc0, r, rfl, _, _, _, fun u hu => by rw [hu]; exact hS.cell 0 rfl 1 rfl,
      r, rfl, _, _, _, fun u hu => by rw [hu]; exact hS.cell 0 rfl 2 rfl, by omega, hlt, q, hq', _, fun u hu => by rw [hu, Int.toNat_natCast]; exact hc0, r, rfl, _, _, _, fun u hu => by rw [hu]; exact hS.cell 0 rfl 2 rfl, by omega, hlt, q, hq', _, _, _, fun u hu => by rw [hu, Int.toNat_natCast]; exact hc 1 _ rfl,
      by omega, by show (y.i : Int) < (x.sS.len : Int); omega, qS, hqS', by rw [Int.toNat_natCast]; exact hS.drew.rowWr 1 rfl hqS' (by rw [List.length_map]; exact hyS), ?_⟩
    rw [Int.toNat_natCast]
    refine ⟨by omega, by show (y.i : Int) < (x.sT.len : Int); omega, qT, hqT', h2'.rowWr 2 rfl hqT' (by rw [List.length_map]; show y.i < T.length; omega), ?_⟩
    rw [inc (by omega)]
    refine ⟨⟨rfl, k + 1, rfl, hkW, S.set y.i (y.s, y.xs), T.set y.i false, by rw [List.length_set, hSl], by rw [List.length_set, List.length_set, hTl], fun z hz => ?_, ?_, ?_, ((hb.trans ((Same.drew w1).below B)).trans hb2).trans hb3⟩, by (try dsimp only); omega⟩
    · rcases List.mem_or_eq_of_mem_set hz with hz | rfl
      · exact hSL z hz
      · exact hyL
    · rw [hcs, drop_at hyP, safeR_set hTl hyS]; rfl
    · unfold rl at h3 ⊢
      simp only [List.cons_append, List.set_cons_succ, List.set_cons_zero, List.length_set, List.map_set] at h3 ⊢
      exact h3
  · have hke : k = x.W.length := by have : ¬ (k : Int) < (x.sW.len : Int) := hge; omega
    have hcs' : nowOf st.safe st.pend = safeR T S := by
      rw [hcs, List.drop_eq_nil_of_le (by omega)]; rfl
    unfold trystref10_Disk_Sync.c1
    obtain ⟨h2, hb2⟩ := hS.set 0 rfl (j := 2) (by simp) (.slice none 0 0)
    refine ⟨r, rfl, hS.wr 0 rfl (j := 2) (by simp), rfl, ?_, hb.trans hb2⟩
    refine Sep.fold { x with S := S, T := T, sW := ⟨none, 0, 0⟩, W := [] } ⟨hcs', hTl, rfl, hSL, (fun y hy => by cases hy), hx.trip, hx.small, by have := hx.few; simp only; omega⟩ ?_
    exact h2.triv (A := rowA 98 2 ⟨none, 0, 0⟩ 0 []) 3 (by simp [rl]) fun F => ⟨World.ownsRow_nil _ _ _ _, fun q hq => by cases hq⟩

theorem t98 : ∃ i, Try.prog.info? 98 = some i ∧ i.zero = some (.agg #[.int .i64 0, .slice none 0 0]) ∧ i.size = 2 ∧ i.bytes = 32 := ⟨Try.t98, by kernel_rfl, by kernel_rfl, by kernel_rfl, by kernel_rfl⟩

theorem rwrite_spec {B : Nat} {w : World} {r : Addr} {st : DS} {R : List Asn} (h : Sep B w (refA r st :: R)) (hpl : st.pend.length ≤ 100000) {s : Sl} {bs : List Int} (i : Int) (hbs : bs.length ≤ 1000000000) (hI : Ints .u8 w s bs) :
    CallsV Try.prog n_trystref10_Disk_Write #[.pointer (some r), .int .i64 i, .slice s.a s.len s.cap] w fun v w' => v = .int .i64 (writeD st i bs).1 ∧ Sep B w' (refA r (writeD st i bs).2 :: R) ∧ Below B w w' := by
  obtain ⟨x, hx, hS⟩ := h.unfold
  refine trystref10_Disk_Write.lift ?_
  unfold trystref10_Disk_Write.main
  have hlS := (hS.rowLen 1 rfl).1
  have hsl := hx.lenS
  have hlen := hI.len
  have bad : ∀ e : Int, e ≠ 0 → wrongD st i = e → (Value.int .i64 e) = .int .i64 (writeD st i bs).1 ∧ Sep B w (refA r (writeD st i bs).2 :: R) ∧ Below B w w := by
    intro e he hw
    rw [writeD, hw, if_pos he]
    exact ⟨rfl, h, Below.refl _ _⟩
  refine ⟨r, rfl, st.off, hS.cell 0 rfl 3 rfl, cond_c (fun ho => bad 9 (by omega) (by rw [wrongD, if_pos ho])) fun ho => ?_⟩
  have hw : wrongD st i = if i < 0 ∨ (st.safe.length : Int) ≤ i then 1 else 0 := by rw [wrongD, if_neg (by rw [ho]; simp)]
  refine cond_d (fun hi => bad 1 (by omega) (by rw [hw, if_pos (.inl hi)])) fun hi => ⟨r, rfl, _, _, _, hS.cell0 0 rfl rfl, cond_d (fun hi2 => bad 1 (by omega) (by rw [hw, if_pos (.inr (by omega))])) fun hi2 => ?_⟩
  have h0 : wrongD st i = 0 := by rw [hw, if_neg (by omega)]
  unfold trystref10_Disk_Write.c1
  refine cond_n (fun hne => ?_) fun h64 => ?_
  · rw [writeD, if_neg (by simp [h0]), if_pos (by omega)]
    exact ⟨rfl, h, Below.refl _ _⟩
  obtain ⟨j, rfl⟩ : ∃ j : Nat, i = j := ⟨i.toNat, by omega⟩
  have hpW : st.pend.length = x.W.length := by rw [hx.pend, List.length_map]
  refine ⟨fun u => u.cell? (r.add 2) = some (.slice x.sW.a x.sW.len x.sW.cap), hS.cell 0 rfl 2 rfl, r, rfl, _, _, _, fun u hu => hu, ?_⟩
  refine (twin_spec hI.drew hbs).mono ?_
  rintro _ w1 ⟨s1, rfl, ho1, hb1⟩
  have h1 := Sep.intsMore (l := rl r x st.off ++ R) 5 rfl hS.drew ho1 (by omega) hb1
  have hB1 : Below B w w1 := ((Same.drew w).below B).next hb1 h.le
  refine ⟨_, _, _, rfl, h1.cell 0 rfl 2 rfl, ?_⟩
  intro w2
  obtain ⟨h2, hb2⟩ := Sep.box h1 [.int .i64 (j : Int), .slice s1.a s1.len s1.cap] 98
  have hnew : ∀ (m : Nat) u, ([.int .i64 (j : Int), .slice s1.a s1.len s1.cap] : List Value)[m]? = some u → w2.cell? ((newA w1).add m) = some u := fun m u hu => h2.cell 0 rfl m hu
  obtain ⟨ii, hi', hz, hsz, hby⟩ := t98
  obtain ⟨sW', w3, hrun, hlW', h3, hb3⟩ := Sep.append (ty := 90) (c := 1) Try.underlying90 hi' hz hsz hby rfl (by omega) 3 rfl h2.drop (m := 1) (news := [.int .i64 (j : Int), .slice s1.a s1.len s1.cap]) rfl hnew (by intro u hu; simp at hu; rcases hu with rfl | rfl <;> rfl) (by unfold maxLen; omega) (by omega) (by omega)
  obtain ⟨h4, hb4⟩ := h3.set 0 rfl (j := 2) (by simp) (.slice sW'.a sW'.len sW'.cap)
  refine ⟨h2.drop.cell 0 rfl 2 rfl, _, _, _, _, hrun, r, rfl, h3.wr 0 rfl (j := 2) (by simp), ?_⟩
  have hB4 := ((hB1.trans hb2).trans hb3).trans hb4
  have hx4 : ROk { x with sW := sW', W := x.W ++ [⟨j, s1, bs⟩], L := (s1, bs) :: x.L } (addD st j bs) := by
    refine ⟨hx.safe, hx.lenT, ?_, fun y hy => List.mem_cons_of_mem _ (hx.inS y hy), fun y hy => ?_, hx.trip, hx.small, hx.few⟩
    · show st.pend ++ [_] = _
      rw [hx.pend, List.map_append]; rfl
    · rcases List.mem_append.1 hy with hy | hy
      · obtain ⟨a, b⟩ := hx.inW y hy
        exact ⟨List.mem_cons_of_mem _ a, b⟩
      · simp at hy; subst hy
        exact ⟨List.mem_cons_self, by simp only; omega⟩
  have h4' : Sep B (w3.setCell (r.add 2) (.slice sW'.a sW'.len sW'.cap)) (rl r { x with sW := sW', W := x.W ++ [⟨j, s1, bs⟩], L := (s1, bs) :: x.L } (addD st j bs).off ++ R) := by
    have e1 : flat Wt.cells (x.W ++ [⟨j, s1, bs⟩]) = flat Wt.cells x.W ++ [.int .i64 (j : Int), .slice s1.a s1.len s1.cap] := by rw [flat_app, flat_one]; rfl
    unfold rl
    simp only [List.length_append, List.length_cons, List.length_nil, Nat.zero_add, e1]
    exact h4
  refine (rtrips_core hx4 ho h4' (by show (st.pend ++ [_]).length ≤ _; rw [List.length_append]; simp; omega)).mono ?_
  rintro _ w5 ⟨rfl, h5, hb5⟩
  have e : writeD st (j : Int) bs = (if (tripsD (addD st j bs)).1 = true then 9 else 0, (tripsD (addD st j bs)).2) := by
    rw [writeD, if_neg (by simp [h0]), if_neg (by omega), Int.toNat_natCast]
  rw [e]
  refine ⟨_, rfl, cond_c (fun hh => ⟨by rw [if_pos hh], h5, hB4.trans hb5⟩) fun hh => ⟨by rw [if_neg (by rw [hh]; simp)], h5, hB4.trans hb5⟩⟩

theorem rnew_bad (n : Int) (w : World) (hn : n < 1 ∨ 512 < n) : CallsV Try.prog n_trystref10_New #[.int .i64 n] w fun v w' => v = .pointer none ∧ w = w' := by
  refine trystref10_New.lift ?_
  unfold trystref10_New.main
  refine cond_d (fun _ => ⟨rfl, rfl⟩) fun h1 => cond_d (fun _ => ⟨rfl, rfl⟩) fun h2 => ?_
  omega

end Go.Proofs.Ytnnpkjhpeefnbaa
