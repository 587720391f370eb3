/-
  Disk: writes, syncs, and what is armed: contracts.
-/
import Derived.Test.YtnnpkjhpeefnbaaDiB
set_option linter.unusedVariables false
set_option linter.unusedSimpArgs false
namespace Go.Proofs.Ytnnpkjhpeefnbaa
open Go.Lf Go.RowKit

theorem crash_spec {B : Nat} {w : World} {d : Addr} {st : DS} {R : List Asn} (h : Sep B w (diskA d st :: R)) {keep : Sl} {kl : List Bool} (torn : Int) (hpl : st.pend.length ≤ 1000000000)
    (hk : ∀ w', Below B w w' → Sep B w' R → BoolsR w' keep kl) :
    CallsV Try.prog n_disk_Disk_Crash #[.pointer (some d), .slice keep.a keep.len keep.cap, .int .i64 torn] w fun v w' => v = .tuple #[] ∧ Sep B w' (diskA d (crashD st kl torn) :: R) ∧ Below B w w' := by
  obtain ⟨x, ⟨hx, hr⟩, hS⟩ := h.unfold
  exact crash_core hx hS torn hpl (fun _ => hr) fun w' sf hb hS' => hk w' hb (Sep.dropL hS')

theorem off_spec {B : Nat} {w : World} {d : Addr} {st : DS} {R : List Asn} (h : Sep B w (diskA d st :: R)) : CallsV Try.prog n_disk_Disk_Off #[.pointer (some d)] w fun v w' => v = .bool st.off ∧ w = w' := by
  obtain ⟨x, _, hS⟩ := h.unfold
  refine disk_Disk_Off.lift ?_
  unfold disk_Disk_Off.main
  exact ⟨d, rfl, _, hS.cell 0 rfl 3 rfl, rfl, rfl⟩

theorem sectors_spec {B : Nat} {w : World} {d : Addr} {st : DS} {R : List Asn} (h : Sep B w (diskA d st :: R)) : CallsV Try.prog n_disk_Disk_Sectors #[.pointer (some d)] w fun v w' => v = .int .i64 (st.safe.length : Nat) ∧ w = w' := by
  obtain ⟨x, ⟨hx, _⟩, hS⟩ := h.unfold
  refine disk_Disk_Sectors.lift ?_
  unfold disk_Disk_Sectors.main
  refine ⟨d, rfl, _, _, _, hS.cell0 0 rfl rfl, ?_, rfl⟩
  have hl := (hS.rowLen 1 rfl).1
  rw [hx.safe, List.length_map, hl]

theorem start_spec {B : Nat} {w : World} {d : Addr} {st : DS} {R : List Asn} (h : Sep B w (diskA d st :: R)) : CallsV Try.prog n_disk_Disk_Start #[.pointer (some d)] w fun v w' => v = .tuple #[] ∧ Sep B w' (diskA d (startD st) :: R) ∧ Below B w w' := by
  obtain ⟨x, ⟨hx, hr⟩, hS⟩ := h.unfold
  refine disk_Disk_Start.lift ?_
  unfold disk_Disk_Start.main
  obtain ⟨h2, hb⟩ := hS.set 0 rfl (j := 3) (by simp) (.bool false)
  exact ⟨d, rfl, hS.wr 0 rfl (j := 3) (by simp), rfl, Sep.fold x ⟨⟨hx.safe, hx.pend, hx.now, hx.pos, hx.few, hx.inS, hx.inN, hx.inP, hx.tp0, hx.tp1⟩, hr⟩ h2, hb⟩

theorem cloneBool_spec {w : World} {s : Sl} {bs : List Bool} (h : BoolsR w s bs) (hx : bs.length ≤ 1000000000) :
    CallsV Try.prog n_slices_Clone_bool #[.slice s.a s.len s.cap] w fun v w' => ∃ s' : Sl, v = .slice s'.a s'.len s'.cap ∧ w'.ownsRow w.heap.size 4 1 (.slice s'.a s'.len s'.cap) bs.length (bs.map Value.bool) ∧ Below w.heap.size w w' := by
  refine slices_Clone_bool.lift ?_
  unfold slices_Clone_bool.main
  refine cond_c (fun hn => ?_) fun hn => ?_
  · have hn' : s.a = none := by simpa using hn
    have : bs = [] := by
      cases bs with
      | nil => rfl
      | cons y r => obtain ⟨p, hp, _⟩ := h.cell 0 y rfl; rw [hn'] at hp; cases hp
    subst this
    exact ⟨⟨none, 0, 0⟩, rfl, World.ownsRow_nil _ _ _ _, Below.refl _ _⟩
  · obtain ⟨a, ha⟩ : ∃ a, s.a = some a := by
      cases hs : s.a with
      | none => rw [hs] at hn; cases hn
      | some a => exact ⟨a, rfl⟩
    obtain ⟨i, hi, hz, hsz, hby⟩ := t4
    obtain ⟨s', w', hr, _, ho, hb⟩ := clone_go (ty := 46) (c := s.cap) Try.underlying46 hi hz hsz hby rfl (by omega) (w := w) (a := a) (m := bs.length) (news := bs.map Value.bool) (by simp) (fun j u hu => by
      rw [List.getElem?_map, Option.map_eq_some_iff] at hu
      obtain ⟨b, hb, rfl⟩ := hu
      obtain ⟨p, hp, hc⟩ := h.cell j b hb
      rw [ha] at hp
      obtain rfl := Option.some.inj hp
      exact hc) (by intro u hu; simp at hu; rcases hu with ⟨_, rfl⟩ | ⟨_, rfl⟩ <;> rfl) (by unfold maxLen; omega) (by omega)
    rw [ha, h.len]
    exact ⟨_, _, _, _, hr, s', rfl, ho, hb⟩

theorem trip_spec {B : Nat} {w : World} {d : Addr} {st : DS} {R : List Asn} (h : Sep B w (diskA d st :: R)) {keep : Sl} {kl : List Bool} (n torn : Int) (hn : n ≤ 9223372036854775807) (hkl : kl.length ≤ 1000000000)
    (hk : ∀ w', Below B w w' → Sep B w' R → BoolsR w' keep kl) :
    CallsV Try.prog n_disk_Disk_Trip #[.pointer (some d), .int .i64 n, .slice keep.a keep.len keep.cap, .int .i64 torn] w fun v w' => v = .tuple #[] ∧ Sep B w' (diskA d (tripD st n kl torn) :: R) ∧ Below B w w' := by
  obtain ⟨x, ⟨hx, hr⟩, hS⟩ := h.unfold
  refine disk_Disk_Trip.lift ?_
  unfold disk_Disk_Trip.main
  obtain ⟨h2, hb⟩ := hS.set 0 rfl (j := 4) (by simp) (.pointer none)
  have h3 := ((h2.triv (A := noneA) 4 (by simp [dl]) fun F => trivial).triv (A := rowA 4 1 ⟨none, 0, 0⟩ 0 []) 5 (by simp [dl]) fun F => ⟨World.ownsRow_nil _ _ _ _, fun q hq => by cases hq⟩)
  refine ⟨d, rfl, hS.wr 0 rfl (j := 4) (by simp), cond_d (fun h1 => ?_) fun h1 => ⟨rfl, ?_, hb⟩⟩
  · have hR : Sep B (w.setCell (d.add 4) (.pointer none)) R := h2.drop.drop.drop.drop.drop.drop.drop
    refine (cloneBool_spec (hk _ hb hR) hkl).mono ?_
    rintro _ w2 ⟨ks, rfl, ho, hb2⟩
    refine ⟨_, _, _, rfl, ?_⟩
    intro w3
    have h4 := Sep.swapIn (l := (dl d { x with tp := none, ks := ⟨none, 0, 0⟩ } st.off none ++ R)) 5 (by simp [dl]) (Sep.row h3 ho hb2)
    have h5 := Sep.box h4 [.int .i64 n, .slice ks.a ks.len ks.cap, .int .i64 torn] 89
    have h6 := Sep.swapIn (l := (dl d { x with tp := none, ks := ⟨none, 0, 0⟩ } st.off none ++ R).set 5 _) 4 (by simp [dl]) h5.1
    obtain ⟨h7, hb7⟩ := h6.set 0 rfl (j := 4) (by simp) (.pointer (some (newA w2)))
    refine ⟨d, rfl, h6.wr 0 rfl (j := 4) (by simp), rfl, ?_, ((hb.next hb2 (by have := hS.le; simpa [World.setCell] using this)).trans h5.2).trans hb7⟩
    have e : tripD st n kl torn = { st with trip := some (n, kl, torn) } := by rw [tripD, if_pos h1]
    rw [e]
    exact Sep.fold { x with tp := some (newA w2), ks := ks } ⟨⟨hx.safe, hx.pend, hx.now, hx.pos, hx.few, hx.inS, hx.inN, hx.inP, (fun hh => by cases hh), fun t ht => ⟨_, rfl⟩⟩, fun t ht => by obtain rfl := Option.some.inj ht; exact ⟨h1, hn⟩⟩ h7
  · have e : tripD st n kl torn = { st with trip := none } := by rw [tripD, if_neg h1]
    rw [e]
    exact Sep.fold { x with tp := none, ks := ⟨none, 0, 0⟩ } ⟨⟨hx.safe, hx.pend, hx.now, hx.pos, hx.few, hx.inS, hx.inN, hx.inP, fun _ => rfl, fun t ht => by cases ht⟩, fun t ht => by cases ht⟩ h3

/-! does the power go with this call -/

theorem trips_core {B : Nat} {w : World} {d : Addr} {x : DC} {st : DS} {R : List Asn} (hx : DOk x st) (hr : Rng st) (hoff : st.off = false) (hS : Sep B w (dl d x st.off st.trip ++ R)) (hpl : st.pend.length ≤ 1000000000) (hkl : ∀ t, st.trip = some t → t.2.1.length ≤ 1000000000) :
    CallsV Try.prog n_disk_Disk_trips #[.pointer (some d)] w fun v w' => v = .bool (tripsD st).1 ∧ Sep B w' (diskA d (tripsD st).2 :: R) ∧ Below B w w' := by
  refine disk_Disk_trips.lift ?_
  unfold disk_Disk_trips.main
  refine ⟨d, rfl, x.tp, hS.cell 0 rfl 4 rfl, cond_c (fun hn => ?_) fun hn => ?_⟩
  · cases ht : st.trip with
    | none => rw [show tripsD st = (false, st) by rw [tripsD, ht]]; exact ⟨rfl, Sep.fold x ⟨hx, hr⟩ hS, Below.refl _ _⟩
    | some t => obtain ⟨q, hq⟩ := hx.tp1 t ht; rw [hq] at hn; cases hn
  · cases ht : st.trip with
    | none => rw [hx.tp0 ht] at hn; cases hn
    | some t =>
      obtain ⟨n, keep, torn⟩ := t
      obtain ⟨q, hq⟩ := hx.tp1 _ ht
      obtain ⟨hn1, hn2⟩ := hr _ ht
      dsimp only at hn1 hn2
      have hk := hkl _ ht
      dsimp only at hk
      obtain ⟨sS, sN, sP, sf, nw, pd, tp, ks, L⟩ := x
      dsimp only at hq
      subst hq
      obtain ⟨safe, pend, off, trip⟩ := st
      dsimp only at ht hoff hpl
      subst ht hoff
      have hq4 := hS.cell0 4 rfl rfl
      obtain ⟨h2, hb⟩ := hS.set0 4 rfl (by simp [tripC]) (.int .i64 (IntKind.i64.wrap (n - 1)))
      rw [w64 (n := n - 1) (by omega)] at h2 hb
      refine ⟨d, rfl, _, hS.cell 0 rfl 4 rfl, q, rfl, _, hq4, q, rfl, hS.wr0 4 rfl (by simp [tripC]), ?_⟩
      rw [w64 (n := n - 1) (by omega)]
      refine ⟨d, rfl, _, h2.cell 0 rfl 4 rfl, q, rfl, _, h2.cell0 4 rfl rfl, ?_⟩
      have e : tripsD ⟨safe, pend, false, some (n, keep, torn)⟩ = if n - 1 > 0 then (false, ⟨safe, pend, false, some (n - 1, keep, torn)⟩) else (true, crashD ⟨safe, pend, false, some (n - 1, keep, torn)⟩ keep torn) := rfl
      rw [e]
      have hx' : DOk ⟨sS, sN, sP, sf, nw, pd, some q, ks, L⟩ ⟨safe, pend, false, some (n - 1, keep, torn)⟩ := ⟨hx.safe, hx.pend, hx.now, hx.pos, hx.few, hx.inS, hx.inN, hx.inP, fun h => (by cases h), fun t _ => ⟨q, rfl⟩⟩
      have h3 : Sep B (w.setCell q (.int .i64 (n - 1))) (dl d ⟨sS, sN, sP, sf, nw, pd, some q, ks, L⟩ false (some (n - 1, keep, torn)) ++ R) := h2
      refine cond_d (fun h1 => ?_) fun h1 => ?_
      · rw [if_pos h1]
        exact ⟨rfl, Sep.fold _ ⟨hx', fun t ht => by obtain rfl := Option.some.inj ht; exact ⟨by simp only; omega, by simp only; omega⟩⟩ h3, hb⟩
      · rw [if_neg h1]
        refine ⟨fun u => u.cell? (d.add 4) = some (.pointer (some q)) ∧ u.cell? (q.add 1) = some (.slice ks.a ks.len ks.cap) ∧ u.cell? (q.add 2) = some (.int .i64 torn), ⟨h2.cell 0 rfl 4 rfl, h2.cell 4 rfl 1 rfl, h2.cell 4 rfl 2 rfl⟩,
          d, rfl, _, fun u hu => hu.1, q, rfl, _, _, _, fun u hu => hu.2.1, d, rfl, _, fun u hu => hu.1, q, rfl, _, fun u hu => hu.2.2, ?_⟩
        refine (crash_core (kl := keep) hx' h3.drew torn hpl (fun h => by cases h) fun w' sf' _ hS' => ?_).mono ?_
        · have hl := (hS'.rowLen 5 rfl).1
          refine ⟨by simpa [keepOf] using hl, fun i b hib => ?_⟩
          have hlt := (List.getElem?_eq_some_iff.1 hib).1
          obtain ⟨p, hp, hc⟩ := hS'.rowCell 5 rfl (j := i) (by simpa [keepOf] using hlt)
          exact ⟨p, hp, hc i _ (by simp [keepOf, hib])⟩
        · rintro _ w' ⟨rfl, hS', hb'⟩
          exact ⟨rfl, rfl, hS', (hb.trans ((Same.drew _).below B)).trans hb'⟩

/-! a write -/

theorem nowOf_app (s : List (Option (List Int))) (p : List (Nat × List Int)) (i : Nat) (b : List Int) : nowOf s (p ++ [(i, b)]) = (nowOf s p).set i (some b) := by
  simp [nowOf, List.foldl_append]

structure WfD (st : DS) : Prop where
  pend : st.pend.length ≤ 1000000
  keep : ∀ t, st.trip = some t → t.2.1.length ≤ 1000000000

theorem write_spec {B : Nat} {w : World} {d : Addr} {st : DS} {R : List Asn} (h : Sep B w (diskA d st :: R)) (wf : WfD st) {s : Sl} {bs : List Int} (i : Int) (hbs : bs.length ≤ 1000000000)
    (hs : ∀ w', Below B w w' → Sep B w' R → Ints .u8 w' s bs) :
    CallsV Try.prog n_disk_Disk_Write #[.pointer (some d), .int .i64 i, .slice s.a s.len s.cap] w fun v w' => v = .int .i64 (writeD st i bs).1 ∧ Sep B w' (diskA d (writeD st i bs).2 :: R) ∧ Below B w w' := by
  obtain ⟨x, ⟨hx, hr⟩, hS⟩ := h.unfold
  refine disk_Disk_Write.lift ?_
  unfold disk_Disk_Write.main
  refine (wrong_spec hx hS i).mono ?_
  rintro _ _ ⟨rfl, rfl⟩
  have hI := hs w (Below.refl _ _) h.drop
  have hlen := hI.len
  refine ⟨_, rfl, cond_n (fun hne => ⟨by rw [writeD, if_pos hne], by rw [writeD, if_pos hne]; exact h, Below.refl _ _⟩) fun h0 => ?_⟩
  intro t15
  have ht : t15 = (((s.len : Nat) : Int) != 64) := rfl
  clear_value t15; subst ht
  refine cond_n (fun hne => ?_) fun h64 => ?_
  · have : bs.length ≠ 64 := by omega
    rw [writeD, if_neg (by simp [h0]), if_pos this]
    exact ⟨rfl, h, Below.refl _ _⟩
  have h64 : bs.length = 64 := by omega
  have hoff : st.off = false := by
    unfold wrongD at h0
    cases ho : st.off with
    | false => rfl
    | true => rw [ho] at h0; simp at h0
  have hin : 0 ≤ i ∧ i < (st.safe.length : Int) := by
    unfold wrongD at h0
    rw [hoff] at h0
    simp only [Bool.false_eq_true, if_false] at h0
    split at h0
    · cases h0
    · omega
  obtain ⟨j, rfl⟩ : ∃ j : Nat, i = j := ⟨i.toNat, by omega⟩
  have hsl : st.safe.length = x.safe.length := by rw [hx.safe, List.length_map]
  have hlN := hx.lenN
  have hpd : x.pend.length ≤ 1000000 := by have := wf.pend; rw [hx.pend, List.length_map] at this; exact this
  refine ⟨fun u => u.cell? (d.add 2) = some (.slice x.sP.a x.sP.len x.sP.cap), hS.cell 0 rfl 2 rfl, d, rfl, _, _, _, fun u hu => hu, ?_⟩
  refine (cloneB_spec (hs _ ((Same.drew w).below B) h.drop.drew) hbs).mono ?_
  rintro _ w2 ⟨s1, rfl, ho1, hb1⟩
  have hS2 := Sep.intsMore (l := dl d x st.off st.trip ++ R) 6 rfl hS.drew ho1 (by omega) hb1
  have hB2 : Below B w w2 := ((Same.drew w).below B).next hb1 h.le
  refine ⟨_, _, _, rfl, hS2.cell 0 rfl 2 rfl, ?_⟩
  intro w3
  obtain ⟨hS3, hb3⟩ := Sep.box hS2 [.int .i64 (j : Int), .slice s1.a s1.len s1.cap] 86
  have hS3' := hS3.drop
  have hnew : ∀ (m : Nat) u, ([.int .i64 (j : Int), .slice s1.a s1.len s1.cap] : List Value)[m]? = some u → (w2.alloc (.cells #[.int .i64 (j : Int), .slice s1.a s1.len s1.cap] 86)).cell? ((newA w2).add m) = some u := fun m u hu => hS3.cell 0 rfl m hu
  obtain ⟨ii, hi, hz, hsz, hby⟩ := t86
  have hlP := (hS.rowLen 3 rfl).1
  obtain ⟨sP', w4, hrun, hlP', hS4, hb4⟩ := Sep.append (ty := 77) (c := 1) Try.underlying77 hi hz hsz hby rfl (by omega) 3 rfl hS3' (m := 1) (news := [.int .i64 (j : Int), .slice s1.a s1.len s1.cap]) rfl hnew (by intro u hu; simp at hu; rcases hu with rfl | rfl <;> rfl) (by unfold maxLen; omega) (by omega) (by omega)
  refine ⟨hS3'.cell 0 rfl 2 rfl, _, _, _, _, hrun, d, rfl, hS4.wr 0 rfl (j := 2) (by simp), ?_⟩
  intro w5
  obtain ⟨hS5, hb5⟩ := hS4.set 0 rfl (j := 2) (by simp) (.slice sP'.a sP'.len sP'.cap)
  have hB5 : Below B w w5 := ((hB2.trans hb3).trans hb4).trans hb5
  have hR5 : Sep B w5 R := hS5.drop.drop.drop.drop.drop.drop.drop
  refine ⟨fun u => u.cell? (d.add 1) = some (.slice x.sN.a x.sN.len x.sN.cap), hS5.cell 0 rfl 1 rfl, d, rfl, _, _, _, fun u hu => hu, ?_⟩
  refine (cloneB_spec (hs _ (hB5.trans ((Same.drew _).below B)) hR5.drew) hbs).mono ?_
  rintro _ w6 ⟨s2, rfl, ho2, hb6⟩
  have hS6 := Sep.intsMore 6 rfl hS5.drew ho2 (by omega) hb6
  have hlN' := (hS6.rowLen 2 rfl).1
  have hjN : j < x.now.length := by omega
  obtain ⟨qN, hqN, _⟩ := hS6.rowCell 2 rfl (j := 0) (by rw [flat_length Sc.w]; omega)
  have hqN' : x.sN.a = some qN := hqN
  obtain ⟨hw7, hS7, hb7⟩ := hS6.rowEl 2 Sc.w (xs := x.now) rfl hqN' hjN ⟨s2, bs, false⟩
  refine ⟨_, _, _, rfl, hS6.cell 0 rfl 1 rfl, by omega, by omega, qN, hqN', by rw [Int.toNat_natCast]; exact hw7, ?_⟩
  rw [Int.toNat_natCast]
  intro w7
  have hB7 : Below B w w7 := ((hB5.trans ((Same.drew _).below B)).next hb6 h.le).trans hb7
  have hx7 : DOk ⟨x.sS, x.sN, sP', x.safe, x.now.set j ⟨s2, bs, false⟩, x.pend ++ [⟨j, s1, bs⟩], x.tp, x.ks, (s2, bs) :: (s1, bs) :: x.L⟩ (addD st (j : Int).toNat bs) := by
    have up : ∀ y, ScOk x.L y → ScOk ((s2, bs) :: (s1, bs) :: x.L) y := fun y hy => hy.imp id fun ⟨a, b, c⟩ => ⟨a, List.mem_cons_of_mem _ (List.mem_cons_of_mem _ b), c⟩
    refine ⟨hx.safe, ?_, ?_, hx.pos, hx.few, fun y hy => up y (hx.inS y hy), fun y hy => ?_, fun y hy => ?_, hx.tp0, hx.tp1⟩
    · show st.pend ++ [_] = _
      rw [hx.pend, List.map_append]; simp [Wt.val]
    · show nowOf st.safe (st.pend ++ [_]) = _
      rw [nowOf_app, hx.now, List.map_set]; simp [Sc.val]
    · rcases List.mem_or_eq_of_mem_set hy with hy | rfl
      · exact up y (hx.inN y hy)
      · exact .inr ⟨rfl, List.mem_cons_self, h64⟩
    · rcases List.mem_append.1 hy with hy | hy
      · obtain ⟨a, b, c⟩ := hx.inP y hy
        exact ⟨List.mem_cons_of_mem _ (List.mem_cons_of_mem _ a), b, c⟩
      · simp at hy; subst hy
        exact ⟨List.mem_cons_of_mem _ List.mem_cons_self, h64, by simp only; omega⟩
  have hS7' : Sep B w7 (dl d ⟨x.sS, x.sN, sP', x.safe, x.now.set j ⟨s2, bs, false⟩, x.pend ++ [⟨j, s1, bs⟩], x.tp, x.ks, (s2, bs) :: (s1, bs) :: x.L⟩ (addD st (j : Int).toNat bs).off (addD st (j : Int).toNat bs).trip ++ R) := by
    have e1 : flat Wt.cells (x.pend ++ [⟨j, s1, bs⟩]) = flat Wt.cells x.pend ++ [.int .i64 (j : Int), .slice s1.a s1.len s1.cap] := by rw [flat_app, flat_one]; rfl
    unfold dl
    simp only [List.length_append, List.length_cons, List.length_nil, Nat.zero_add, List.length_set, e1]
    exact hS7
  refine (trips_core hx7 hr hoff hS7' (by show (st.pend ++ [_]).length ≤ _; rw [List.length_append]; have := wf.pend; simp; omega) wf.keep).mono ?_
  rintro _ w8 ⟨rfl, hS8, hb8⟩
  have e : writeD st (j : Int) bs = (if (tripsD (addD st (j : Int).toNat bs)).1 = true then 9 else 0, (tripsD (addD st (j : Int).toNat bs)).2) := by
    rw [writeD, if_neg (by simp [h0]), if_neg (by omega)]
  rw [e]
  refine ⟨_, rfl, cond_c (fun hh => ⟨by rw [if_pos hh], hS8, hB7.trans hb8⟩) fun hh => ⟨by rw [if_neg (by rw [hh]; simp)], hS8, hB7.trans hb8⟩⟩

end Go.Proofs.Ytnnpkjhpeefnbaa
