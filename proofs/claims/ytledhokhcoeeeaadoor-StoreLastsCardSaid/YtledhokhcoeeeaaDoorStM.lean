/-
  StoreLasts: the law.
-/
import Derived.Test.YtledhokhcoeeeaaDoorStL
set_option linter.unusedVariables false
set_option linter.unusedVariables false
set_option linter.unusedSimpArgs false
namespace Go.Proofs.YtledhokhcoeeeaaDoor
open Go.Lf Go.RowKit

theorem Mid.trip {safe : List (Option (List Int))} {q : Bool} {st : DS} (h : Mid safe [] q st) {n torn : Int} {kl : List Bool} (hk : kl.length ≤ 1000000000) : Mid safe [] false (tripD st n kl torn) := by
  refine ⟨h.safe, h.pend, h.on, fun t ht => ?_, fun hq => by cases hq⟩
  have ht : (if n ≥ 1 then some (n, kl, torn) else none) = some t := ht
  split at ht
  · obtain rfl := Option.some.inj ht
    exact hk
  · cases ht
theorem Mid.trip0 {safe : List (Option (List Int))} {q : Bool} {st : DS} (h : Mid safe [] q st) : Mid safe [] true (tripD st 0 [] 0) :=
  ⟨h.safe, h.pend, h.on, (fun t ht => by cases ht), fun _ => rfl⟩
theorem Gone.on {safe : List (Option (List Int))} {st : DS} (h : Gone safe st) : Mid st.safe [] true (startD st) := ⟨rfl, h.pend, rfl, (fun t ht => by have ht : st.trip = some t := ht; rw [h.trip] at ht; cases ht), fun _ => h.trip⟩
theorem Mid.crashed {safe : List (Option (List Int))} {q : Bool} {st : DS} (h : Mid safe [] q st) {kl : List Bool} {t : Int} : Gone safe (crashD st kl t) := by
  obtain ⟨a, b, c, d⟩ := st
  obtain ⟨h1, h2, h3, _, _⟩ := h
  dsimp only at h1 h2 h3
  subst h1 h2 h3
  exact ⟨rfl, rfl, rfl, rfl⟩

section
variable {W w w' : World} {lS wS nS : Sl} {l : List SaveI} {next S : List Int} {d p : Addr} {st : DS} {R L : List Asn} {RR : Value → World → Prop} {i c : Nat} {kl : List Bool} {safe : List (Option (List Int))}

theorem trip_at (h : At W w (diskA d st :: R)) {keep : Sl} (n torn : Int) (hn : n ≤ 9223372036854775807) (hkl : kl.length ≤ 1000000000) (hk : ∀ w', At W w' R → BoolsR w' keep kl) :
    CallsV Tryd.prog n_disk_Disk_Trip #[.pointer (some d), .int .i64 n, .slice keep.a keep.len keep.cap, .int .i64 torn] w fun v w' => v = .tuple #[] ∧ At W w' (diskA d (tripD st n kl torn) :: R) := by
  refine (trip_spec h.s (keep := keep) n torn hn hkl fun w' hb hS => hk w' ⟨hS, h.b.trans hb, h.g⟩).mono ?_
  rintro _ w' ⟨rfl, h1, h2⟩
  exact ⟨rfl, h.go h1 h2⟩

abbrev LaN := Sl → Option Addr → Option Addr → Sl → Int → World → Prop

/-- in between: the state, and what was -/
structure LaIn (st : DS) (c : Nat) (S : List Int) (i : Nat) : Prop where
  h : Holds st.safe c S
  m : Mid st.safe [] true st
  c : c ≤ i

set_option maxRecDepth 100000 in
theorem la_c1 (hRR : ∀ w, Below W.heap.size W w → RR (.bool true) w) (t : LaIn st c S i) (hi : i ≤ 100) (h : At W w [diskA d st, storeA d p S, byA wS S]) : trystlaw14_StoreLasts.c1 RR (some d) wS w := by
  have few := t.h.few
  have hc := t.c
  unfold trystlaw14_StoreLasts.c1
  refine (crash_at h t.m.pend (-1)).mono ?_
  rintro _ w1 ⟨rfl, h1⟩
  refine ⟨rfl, (start_at h1).mono ?_⟩
  rintro _ w2 ⟨rfl, h2⟩
  have g := t.m.crashed (kl := []) (t := -1)
  have hH : Holds (startD (crashD st [] (-1))).safe c S := by show Holds (crashD st [] (-1)).safe c S; rw [g.safe]; exact t.h
  refine ⟨rfl, (open_at hH g.on.pend g.on.on (by omega) h2).mono ?_⟩
  rintro _ w3 ⟨p3, rfl, h3⟩
  refine ⟨_, _, rfl, cond_t rfl (cond_t rfl ((state_at h3 (by omega)).mono ?_))⟩
  rintro _ w4 ⟨s4, rfl, h4⟩
  refine ⟨_, _, _, rfl, (bytes_at h4 (h4.bytes 0 rfl (by omega)) (h4.bytes 4 rfl (by omega))).mono ?_⟩
  rintro _ w5 ⟨rfl, h5⟩
  refine ⟨_, rfl, cond_t (by simp) ((wakes14_at h5).mono ?_)⟩
  rintro _ w6 ⟨rfl, h6⟩
  exact ⟨_, rfl, hRR _ h6.b⟩

set_option maxRecDepth 100000 in
theorem la_c3 {N : LaN} {S' : List Int} (t : LaIn st c S' (i + 1)) (hi : i < 100) (hN : ∀ st p c S wS w', LaIn st c S (i + 1) → At W w' [diskA d st, storeA d p S, byA wS S] → N lS (some d) (some p) wS ((i + 1 : Nat) : Int) w')
    (h : At W w [diskA d st, storeA d p S', byA nS next, byA wS S]) : trystlaw14_StoreLasts.c3 RR N lS (some d) (some p) (i : Int) w := by
  have few := t.h.few
  unfold trystlaw14_StoreLasts.c3
  refine (state_at h (by omega)).mono ?_
  rintro _ w1 ⟨s1, rfl, h1⟩
  refine ⟨_, _, _, rfl, (twin_at h1 (h1.bytes 0 rfl (by omega)) (by omega)).mono ?_⟩
  rintro _ w2 ⟨s2, rfl, h2⟩
  refine ⟨_, _, _, rfl, ?_⟩
  dsimp only
  rw [inc (by omega)]
  have h3 : At W w2 [byA s2 S', diskA d st, storeA d p S'] := ((h2.less 5 rfl).less 4 rfl).less 1 rfl
  exact hN st p c S' s2 w2 t (h3.perm (.trans (.swap _ _ _) (.cons _ (.swap _ _ _))))

/-- what the disk has, the power off: the old state or the new one -/
structure LaOff (safe : List (Option (List Int))) (c : Nat) (S next : List Int) (i : Nat) : Prop where
  h : Holds safe c S ∨ Holds safe (c + 1) next
  c : c ≤ i
  s : S.length ≤ 8000
  n : next.length ≤ 8000
theorem LaOff.get (h : LaOff safe c S next i) : ∃ (c' : Nat) (S' : List Int), c' ≤ i + 1 ∧ (S' = S ∨ S' = next) ∧ Holds safe c' S' := by
  have := h.c
  rcases h.h with k | k
  · exact ⟨c, S, by omega, .inl rfl, k⟩
  · exact ⟨c + 1, next, by omega, .inr rfl, k⟩

set_option maxRecDepth 100000 in
theorem la_c4 {N : LaN} (g : Gone safe st) (hO : LaOff safe c S next i) (hi : i < 100) (hN : ∀ st p c S wS w', LaIn st c S (i + 1) → At W w' [diskA d st, storeA d p S, byA wS S] → N lS (some d) (some p) wS ((i + 1 : Nat) : Int) w')
    (h : At W w [diskA d st, byA nS next, byA wS S]) : trystlaw14_StoreLasts.c4 RR N lS (some d) wS (i : Int) nS w := by
  have hs := hO.s
  have hn := hO.n
  unfold trystlaw14_StoreLasts.c4
  refine (start_at h).mono ?_
  rintro _ w1 ⟨rfl, h1⟩
  refine ⟨rfl, (trip_at h1 (kl := []) (keep := ⟨none, 0, 0⟩) 0 0 (by omega) (by simp) fun w' _ => BoolsR.nil).mono ?_⟩
  rintro _ w2 ⟨rfl, h2⟩
  obtain ⟨c', S', hc', hS', hH⟩ := hO.get
  have hM : Mid (tripD (startD st) 0 [] 0).safe [] true (tripD (startD st) 0 [] 0) := g.on.trip0
  have hH2 : Holds (tripD (startD st) 0 [] 0).safe c' S' := by show Holds st.safe c' S'; rw [g.safe]; exact hH
  generalize tripD (startD st) 0 [] 0 = st2 at h2 hM hH2
  have few := hH2.few
  have t : LaIn st2 c' S' (i + 1) := ⟨hH2, hM, hc'⟩
  refine ⟨rfl, (open_at hH2 hM.pend hM.on (by omega) h2).mono ?_⟩
  rintro _ w3 ⟨p3, rfl, h3⟩
  refine ⟨_, _, rfl, cond_n (fun hne => absurd rfl hne) fun _ => cond_f' rfl ((state_at h3 (by omega)).mono ?_)⟩
  rintro _ w4 ⟨s4, rfl, h4⟩
  refine ⟨_, _, _, rfl, (bytes_at h4 (h4.bytes 0 rfl (by omega)) (h4.bytes 4 rfl (by omega))).mono ?_⟩
  rintro _ w5 ⟨rfl, h5⟩
  refine ⟨_, rfl, cond_c (fun hne => ?_) fun he => la_c3 t hi hN h5.drop⟩
  have hS'' : S' = next := hS'.elim (fun hh => by simp [hh] at hne) id
  refine (state_at h5.drop (by omega)).mono ?_
  rintro _ w6 ⟨s6, rfl, h6⟩
  refine ⟨_, _, _, rfl, (bytes_at h6 (h6.bytes 0 rfl (by omega)) (h6.bytes 3 rfl (by omega))).mono ?_⟩
  rintro _ w7 ⟨rfl, h7⟩
  exact ⟨_, rfl, cond_f' (by simp [hS'']) (la_c3 t hi hN h7.drop)⟩

set_option maxRecDepth 100000 in
/-- opened, with the power going again and again -/
theorem la_c7 {N : LaN} (hL : Saves W lS l) (hil : i < l.length) (hlt : light l[i]) (g : Gone safe st) (hO : LaOff safe c S next i) (hi : i < 100) (hN : ∀ st p c S wS w', LaIn st c S (i + 1) → At W w' [diskA d st, storeA d p S, byA wS S] → N lS (some d) (some p) wS ((i + 1 : Nat) : Int) w')
    (h : At W w [diskA d st, byA nS next, byA wS S]) : trystlaw14_StoreLasts.c7 RR N lS (some d) wS (i : Int) nS w := by
  have hs := hO.s
  have hn := hO.n
  have hll := hL.len
  obtain ⟨q, sb, sk, sa, hq, hA⟩ := hL.get hil
  obtain ⟨l1, l2, l3⟩ := hlt
  have al := hA.a.len
  have hpos : (0 : Int) ≤ (i : Int) ∧ (i : Int) < ((lS.len : Nat) : Int) := by omega
  unfold trystlaw14_StoreLasts.c7 trystlaw14_StoreLasts.l5
  refine ⟨fun t w' => ∃ (k : Nat) (st : DS), t = k ∧ Gone safe st ∧ At W w' [diskA d st, byA nS next, byA wS S], fun t _ => 10 - t.toNat, ⟨0, st, rfl, g, h⟩, ?_⟩
  clear h g
  rintro _ w1 ⟨k, st, rfl, g, h1⟩
  unfold trystlaw14_StoreLasts.b5
  refine ⟨hpos.1, hpos.2, q, hq, _, _, _, by rw [Int.toNat_natCast]; exact h1.cellW hA.c5, cond_d (fun hlt => ?_) fun hge => la_c4 g hO hi hN h1⟩
  have hka : k < l[i].again.length := by omega
  refine (start_at h1).mono ?_
  rintro _ w2 ⟨rfl, h2⟩
  refine ⟨rfl, ?_⟩
  have hd := h2.drew
  obtain ⟨qa, cs, hqa, _, hca, hcs, hwf⟩ := hA.a.el k _ (List.getElem?_eq_getElem hka)
  subst hcs
  have hca0 := hca 0 _ rfl
  rw [Nat.add_zero, Nat.mul_one] at hca0
  refine ⟨fun u => Below W.heap.size W u, hd.b, hpos.1, hpos.2, q, hq, _, _, _, fun u hu => by rw [Int.toNat_natCast]; exact Below.here hu hA.c5, by omega, hlt, qa, hqa, _, fun u hu => by rw [Int.toNat_natCast]; exact Below.here hu hca0,
    hpos.1, hpos.2, q, hq, _, _, _, fun u hu => by rw [Int.toNat_natCast]; exact Below.here hu hA.c3, hpos.1, hpos.2, q, hq, _, fun u hu => by rw [Int.toNat_natCast]; exact Below.here hu hA.c4, ?_⟩
  refine (trip_at hd (kl := l[i].keep) (keep := sk) l[i].again[k] l[i].torn (wf_i64 hwf) (by omega) fun w' hw => BoolsR.of_els (hA.k.keep BoolC.stab hw.b)).mono ?_
  rintro _ w3 ⟨rfl, h3⟩
  have hM : Mid safe [] false (tripD (startD st) l[i].again[k] l[i].keep l[i].torn) := by
    have := g.on.trip (n := l[i].again[k]) (torn := l[i].torn) (kl := l[i].keep) (by omega)
    rw [g.safe] at this
    exact this
  obtain ⟨c', S', hc', hS', hH⟩ := hO.get
  have few := hH.few
  generalize tripD (startD st) l[i].again[k] l[i].keep l[i].torn = st3 at h3 hM
  have hH3 : Holds st3.safe c' S' := by rw [hM.safe]; exact hH
  refine ⟨rfl, (open_at hH3 hM.pend hM.on (by omega) h3).mono ?_⟩
  rintro _ w4 ⟨p4, rfl, h4⟩
  -- the power goes
  have fin : ∀ w', At W w' [diskA d st3, storeA d p4 S', byA nS next, byA wS S] → trystlaw14_StoreLasts.c6 RR N (fun l0' d3' was6' i7' next8' k11' w' => (l0' = lS ∧ d3' = some d ∧ was6' = wS ∧ i7' = (i : Int) ∧ next8' = nS ∧ (fun (t : Int) w' => ∃ (k : Nat) (st : DS), t = k ∧ Gone safe st ∧ At W w' [diskA d st, byA nS next, byA wS S]) k11' w') ∧ (fun (t : Int) (_ : World) => 10 - t.toNat) k11' w' < (fun (t : Int) (_ : World) => 10 - t.toNat) (k : Int) w1) lS (some d) wS (i : Int) nS (k : Int) w' := by
    intro w' h'
    unfold trystlaw14_StoreLasts.c6
    refine (crash_at h' hM.pend (-1)).mono ?_
    rintro _ w8 ⟨rfl, h8⟩
    refine ⟨rfl, ?_⟩
    dsimp only
    rw [inc (by omega)]
    exact ⟨⟨rfl, rfl, rfl, rfl, rfl, k + 1, _, rfl, hM.crashed, h8.less 1 rfl⟩, by (try dsimp only); omega⟩
  refine ⟨_, _, rfl, cond_t rfl (cond_f' rfl ((state_at h4 (by omega)).mono ?_))⟩
  rintro _ w5 ⟨s5, rfl, h5⟩
  refine ⟨_, _, _, rfl, (bytes_at h5 (h5.bytes 0 rfl (by omega)) (h5.bytes 4 rfl (by omega))).mono ?_⟩
  rintro _ w6 ⟨rfl, h6⟩
  refine ⟨_, rfl, cond_c (fun hne => ?_) fun he => cond_n (fun hne => absurd rfl hne) fun _ => fin _ h6.drop⟩
  have hS'' : S' = next := hS'.elim (fun hh => by simp [hh] at hne) id
  refine (state_at h6.drop (by omega)).mono ?_
  rintro _ w7 ⟨s7, rfl, h7⟩
  refine ⟨_, _, _, rfl, (bytes_at h7 (h7.bytes 0 rfl (by omega)) (h7.bytes 3 rfl (by omega))).mono ?_⟩
  rintro _ w8 ⟨rfl, h8⟩
  exact ⟨_, rfl, cond_f' (by simp [hS'']) (cond_n (fun hne => absurd rfl hne) fun _ => fin _ h8.drop)⟩

set_option maxRecDepth 100000 in
/-- one save -/
theorem la_c8 {N : LaN} (hL : Saves W lS l) (hil : i < l.length) (hlt : light l[i]) (t : LaIn st c S i) (hi : i < 100) (hN : ∀ st p c S wS w', LaIn st c S (i + 1) → At W w' [diskA d st, storeA d p S, byA wS S] → N lS (some d) (some p) wS ((i + 1 : Nat) : Int) w')
    (h : At W w [diskA d st, storeA d p S, byA wS S]) : trystlaw14_StoreLasts.c8 RR N lS (some d) (some p) wS (i : Int) w := by
  have hll := hL.len
  have hc := t.c
  have few := t.h.few
  obtain ⟨q, sb, sk, sa, hq, hA⟩ := hL.get hil
  obtain ⟨l1, l2, l3⟩ := hlt
  have hpos : (0 : Int) ≤ (i : Int) ∧ (i : Int) < ((lS.len : Nat) : Int) := by omega
  unfold trystlaw14_StoreLasts.c8
  refine ⟨hpos.1, hpos.2, q, hq, _, _, _, by rw [Int.toNat_natCast]; exact h.cellW hA.c0, _, by rw [Int.toNat_natCast]; exact h.cellW hA.c1, _, by rw [Int.toNat_natCast]; exact h.cellW hA.c2, _, _, _, by rw [Int.toNat_natCast]; exact h.cellW hA.c3, _, by rw [Int.toNat_natCast]; exact h.cellW hA.c4, _, _, _, by rw [Int.toNat_natCast]; exact h.cellW hA.c5, ?_⟩
  refine (state14_at h hA.b l1).mono ?_
  rintro _ w1 ⟨nS, next, rfl, hn8, h1⟩
  refine ⟨_, _, _, rfl, ?_⟩
  have hd : At W w1.drew [diskA d st, storeA d p S, byA nS next, byA wS S] := h1.drew.perm (.trans (.swap _ _ _) (.cons _ (.swap _ _ _)))
  refine ⟨fun u => Below W.heap.size W u, hd.b, hpos.1, hpos.2, q, hq, _, fun u hu => by rw [Int.toNat_natCast]; exact Below.here hu hA.c2, hpos.1, hpos.2, q, hq, _, _, _, fun u hu => by rw [Int.toNat_natCast]; exact Below.here hu hA.c3, hpos.1, hpos.2, q, hq, _, fun u hu => by rw [Int.toNat_natCast]; exact Below.here hu hA.c4, ?_⟩
  refine (trip_at hd (kl := l[i].keep) (keep := sk) l[i].trip l[i].torn hA.t (by omega) fun w' hw => BoolsR.of_els (hA.k.keep BoolC.stab hw.b)).mono ?_
  rintro _ w2 ⟨rfl, h2⟩
  have hM : Mid (tripD st l[i].trip l[i].keep l[i].torn).safe [] false (tripD st l[i].trip l[i].keep l[i].torn) := t.m.trip (n := l[i].trip) (torn := l[i].torn) (kl := l[i].keep) (by omega)
  have hH : Holds (tripD st l[i].trip l[i].keep l[i].torn).safe c S := t.h
  generalize tripD st l[i].trip l[i].keep l[i].torn = st2 at h2 hM hH
  refine ⟨rfl, (twin_at h2 (h2.bytes 2 rfl (by omega)) (by omega)).mono ?_⟩
  rintro _ w3 ⟨iS, rfl, h3⟩
  refine ⟨_, _, _, rfl, ?_⟩
  have hcap := h3.bcap 0 rfl
  have h4 : At W w3 (diskA d st2 :: storeA d p S :: [byA iS next, byA nS next, byA wS S]) := h3.perm (.trans (.swap _ _ _) (.cons _ (.swap _ _ _)))
  refine (Save_at hH hM (by omega) (sb := iS) (b := next) hn8 hcap (fun L w' hw => hw.dropL.bytes 0 rfl (by omega)) h4).mono ?_
  rintro v w5 hs
  rcases hs with ⟨st', rfl, hM5, hH5, h5⟩ | ⟨st', rfl, _, g, hH5, h5⟩
  · refine ⟨_, rfl, (bytes_at h5 (h5.bytes 2 rfl (by omega)) (h5.bytes 3 rfl (by omega))).mono ?_⟩
    rintro _ w6 ⟨rfl, h6⟩
    refine ⟨_, rfl, cond_f' (by simp) ?_⟩
    have h7 : At W w6 (byA iS next :: diskA d st' :: storeA d p next :: [byA nS next, byA wS S]) := h6.front 2 rfl
    refine (spoil_at (by omega) h7).mono ?_
    rintro _ w8 ⟨rfl, h8⟩
    refine ⟨rfl, cond_t rfl ((trip_at h8 (kl := []) (keep := ⟨none, 0, 0⟩) 0 0 (by omega) (by simp) fun w' _ => BoolsR.nil).mono ?_)⟩
    rintro _ w9 ⟨rfl, h9⟩
    have hM9 : Mid (tripD st' 0 [] 0).safe [] true (tripD st' 0 [] 0) := hM5.trip0
    have hH9 : Holds (tripD st' 0 [] 0).safe (c + 1) next := hH5
    refine ⟨rfl, (state_at h9 (by omega)).mono ?_⟩
    rintro _ w10 ⟨s10, rfl, h10⟩
    refine ⟨_, _, _, rfl, (bytes_at h10 (h10.bytes 0 rfl (by omega)) (h10.bytes 3 rfl (by omega))).mono ?_⟩
    rintro _ w11 ⟨rfl, h11⟩
    refine ⟨_, rfl, cond_f' (by simp) ?_⟩
    dsimp only
    rw [inc (by omega)]
    exact hN _ p (c + 1) next nS w11 ⟨hH9, hM9, by omega⟩ (h11.drop.less 3 rfl)
  · refine ⟨_, rfl, (bytes_at h5 (h5.bytes 1 rfl (by omega)) (h5.bytes 2 rfl (by omega))).mono ?_⟩
    rintro _ w6 ⟨rfl, h6⟩
    refine ⟨_, rfl, cond_f' (by simp) ((spoil_at (by omega) h6.swap).mono ?_)⟩
    rintro _ w8 ⟨rfl, h8⟩
    refine ⟨rfl, cond_f' rfl (cond_n (fun hne => absurd rfl hne) fun _ => (dOff_at h8).mono ?_)⟩
    rintro _ w9 ⟨rfl, hw⟩
    subst hw
    refine ⟨_, rfl, cond_f' (by rw [g.off]; rfl) ?_⟩
    exact la_c7 hL hil ⟨l1, l2, l3⟩ g ⟨hH5, hc, few, hn8⟩ hi hN h8
end

set_option maxRecDepth 100000 in
theorem slasts_spec {W : World} (hg : W.cell? ⟨0, 0, none⟩ = some errT) {lS : Sl} {l : List SaveI} (hL : Saves W lS l) :
    CallsV Tryd.prog n_trystlaw14_StoreLasts #[.slice lS.a lS.len lS.cap] W fun v w' => v = .bool true ∧ Below W.heap.size W w' := by
  refine trystlaw14_StoreLasts.lift ?_
  unfold trystlaw14_StoreLasts.main
  generalize hRR : (fun (v : Value) (w' : World) => v = .bool true ∧ Below W.heap.size W w') = RR
  have hRR' : ∀ w, Below W.heap.size W w → RR (.bool true) w := fun w hb => by rw [← hRR]; exact ⟨rfl, hb⟩
  have hll := hL.len
  have hS := At.start hg
  refine (heavy_spec hL).mono ?_
  rintro _ w0 ⟨hw, b, rfl, hb⟩
  subst hw
  refine ⟨_, rfl, cond_c (fun _ => hRR' _ (Below.refl _ _)) fun hf => ?_⟩
  obtain ⟨h100, hlight⟩ := hb hf
  have hH : Holds (newD 512).safe 0 [] := Holds.new (by omega)
  have hM := Mid.new 512
  refine (new_at hS 512 (by omega) (by omega)).mono ?_
  rintro _ w1 ⟨d, rfl, h1⟩
  generalize newD 512 = st at h1 hH hM
  refine ⟨_, _, rfl, cond_n (fun hne => absurd rfl hne) fun _ => cond_f' rfl ?_⟩
  unfold trystlaw14_StoreLasts.c10
  refine (open_at hH hM.pend hM.on (by omega) h1).mono ?_
  rintro _ w2 ⟨p, rfl, h2⟩
  refine ⟨_, _, rfl, cond_n (fun hne => absurd rfl hne) fun _ => cond_f' rfl ?_⟩
  have h3 : At w0 w2 [diskA d st, storeA d p [], byA ⟨none, 0, 0⟩ []] := h2.noBytes.perm (.trans (.swap _ _ _) (.cons _ (.swap _ _ _)))
  unfold trystlaw14_StoreLasts.c9 trystlaw14_StoreLasts.l2
  refine ⟨fun t w' => ∃ (i c : Nat) (S : List Int) (st : DS) (p : Addr), t.2.2 = i ∧ i ≤ 25 ∧ t.1 = some p ∧ LaIn st c S i ∧ At w0 w' [diskA d st, storeA d p S, byA t.2.1 S], fun t _ => 30 - t.2.2.toNat, ⟨0, 0, [], st, p, rfl, by omega, rfl, ⟨hH, hM, Nat.le_refl _⟩, h3⟩, ?_⟩
  clear h3 h2 h1 hH hM
  rintro ⟨s5, wS, _⟩ w4 ⟨i, c, S, st, p, rfl, hi, hp, t, h4⟩
  have hp : s5 = some p := hp
  subst hp
  show trystlaw14_StoreLasts.b2 RR _ lS (some d) (some p) wS (i : Int) w4
  have h4 : At w0 w4 [diskA d st, storeA d p S, byA wS S] := h4
  unfold trystlaw14_StoreLasts.b2
  refine cond_d (fun hlt => cond_d (fun hlt25 => ?_) fun hge => la_c1 hRR' t (by omega) h4) fun hge => la_c1 hRR' t (by omega) h4
  have hil : i < l.length := by omega
  refine la_c8 hL hil (hlight i hil (by omega)) t (by omega) (fun st' p' c' S' wS' w' t' hw => ?_) h4
  exact ⟨⟨rfl, rfl, i + 1, c', S', st', p', rfl, by omega, rfl, t', hw⟩, by (try dsimp only); omega⟩

end Go.Proofs.YtledhokhcoeeeaaDoor
