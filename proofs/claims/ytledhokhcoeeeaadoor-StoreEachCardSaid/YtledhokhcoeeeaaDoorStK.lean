/-
  StoreEach: the law.
-/
import Derived.Test.YtledhokhcoeeeaaDoorStH
import Derived.Test.YtledhokhcoeeeaaDoorStEF
set_option linter.unusedVariables false
set_option linter.unusedVariables false
set_option linter.unusedSimpArgs false
namespace Go.Proofs.YtledhokhcoeeeaaDoor
open Go.Lf Go.RowKit

def boA (s : Sl) (bs : List Bool) : Asn := rowA 4 1 s bs.length (bs.map Value.bool)

theorem Mid.trip {safe : List (Option (List Int))} {q : Bool} {st : DS} (h : Mid safe [] q st) {n torn : Int} {kl : List Bool} (hk : kl.length ≤ 1000000000) : Mid safe [] false (tripD st n kl torn) := by
  refine ⟨h.safe, h.pend, h.on, fun t ht => ?_, fun hq => by cases hq⟩
  have ht : (if n ≥ 1 then some (n, kl, torn) else none) = some t := ht
  split at ht
  · obtain rfl := Option.some.inj ht
    exact hk
  · cases ht
theorem Gone.on {safe : List (Option (List Int))} {st : DS} (h : Gone safe st) : Mid st.safe [] true (startD st) := ⟨rfl, h.pend, rfl, (fun t ht => by have ht : st.trip = some t := ht; rw [h.trip] at ht; cases ht), fun _ => h.trip⟩
theorem Mid.crashOn {safe : List (Option (List Int))} {q : Bool} {st : DS} (h : Mid safe [] q st) {kl : List Bool} {t : Int} : (startD (crashD st kl t)).safe = st.safe ∧ Mid st.safe [] true (startD (crashD st kl t)) := by
  obtain ⟨a, b, c, d⟩ := st
  obtain ⟨h1, h2, h3, _, _⟩ := h
  dsimp only at h1 h2 h3
  subst h2 h3
  exact ⟨rfl, rfl, rfl, rfl, (fun t h => by cases h), fun _ => rfl⟩

section
variable {W w w' : World} {oS nS kS : Sl} {old next S : List Int} {d p : Addr} {st : DS} {R L : List Asn} {RR : Value → World → Prop} {which : Int} {k c : Nat} {kl : List Bool}

theorem trip_at (h : At W w (diskA d st :: R)) {keep : Sl} (n torn : Int) (hn : n ≤ 9223372036854775807) (hkl : kl.length ≤ 1000000000) (hk : ∀ w', At W w' R → BoolsR w' keep kl) :
    CallsV Tryd.prog n_disk_Disk_Trip #[.pointer (some d), .int .i64 n, .slice keep.a keep.len keep.cap, .int .i64 torn] w fun v w' => v = .tuple #[] ∧ At W w' (diskA d (tripD st n kl torn) :: R) := by
  refine (trip_spec h.s (keep := keep) n torn hn hkl fun w' hb hS => hk w' ⟨hS, h.b.trans hb, h.g⟩).mono ?_
  rintro _ w' ⟨rfl, h1, h2⟩
  exact ⟨rfl, h.go h1 h2⟩
theorem At.bools (h : At W w L) (j : Nat) {s : Sl} {bs : List Bool} (hk : L[j]? = some (boA s bs)) : BoolsR w s bs := by
  obtain ⟨hl, _⟩ := h.s.rowLen j hk
  refine ⟨hl, fun i b hi => ?_⟩
  have hil := (List.getElem?_eq_some_iff.1 hi).1
  obtain ⟨q, hq, hc⟩ := h.s.rowCell j hk (j := i) (by simpa using hil)
  exact ⟨q, hq, hc i (.bool b) (by rw [List.getElem?_map, hi]; rfl)⟩
/-- one more yes -/
theorem At.boMore (h : At W w L) (j : Nat) {s : Sl} {bs : List Bool} (hk : L[j]? = some (boA s bs)) (b : Bool) (hm : bs.length ≤ 100000) :
    ∃ (s' : Sl) (w' : World), (builtin .append #[44, 44] 44 #[] #[.slice s.a s.len s.cap, .slice (some (newA w)) 1 1]).run Tryd.prog (w.alloc (.cells #[.bool b] 4)) = .ok (.value (.slice s'.a s'.len s'.cap)) w' ∧ At W w' (L.set j (boA s' (bs ++ [b]))) := by
  obtain ⟨i, hi, hz, hsz, hby⟩ := t4
  have hb1 := below_alloc w (.cells #[.bool b] 4)
  have h1 := h.keep hb1
  obtain ⟨s', w', hr, _, h2, hb2⟩ := Sep.append (ty := 44) (c := 1) (m := 1) Tryd.underlying44 hi hz hsz hby rfl (by omega) j hk h1.s (a := newA w) (news := [.bool b]) rfl (fun j u hu => by rw [← hu]; exact (cell_new w #[.bool b] 4 j).trans (by simp))
    (by intro u hu; simp at hu; subst hu; rfl) (by unfold maxLen; omega) (by omega) (by omega)
  refine ⟨s', w', hr, h1.go ?_ hb2⟩
  unfold boA
  rw [List.map_append, List.length_append]
  exact h2

abbrev EaN := Sl → Sl → Int → Int → World → Prop

set_option maxRecDepth 100000 in
/-- the next Save is safe -/
theorem ea_c3 {N : EaN} (hH : Holds st.safe c S) (hM : Mid st.safe [] true st) (hc : c < 1000) (hk : k < 100) (hN : ∀ w', At W w' [] → N oS nS which ((k + 1 : Nat) : Int) w')
    (h : At W w (diskA d st :: storeA d p S :: R)) : trystlaw14_StoreEach.c3 RR N oS nS which (k : Int) (some d) (some p) w := by
  unfold trystlaw14_StoreEach.c3
  intro w2
  have h2 : At W w2 (byA ⟨some (newA w), 1, 1⟩ [7] :: diskA d st :: storeA d p S :: R) := h.own (made_ints (xs := [7]) (by decide)) (below_alloc _ _)
  refine (Save_quiet hH hM (by omega) (sb := ⟨some (newA w), 1, 1⟩) (b := [7]) (by simp) (Nat.le_refl _) (R := byA ⟨some (newA w), 1, 1⟩ [7] :: R) (fun L w' hw => hw.dropL.bytes 0 rfl (by simp)) (h2.perm (.trans (.swap _ _ _) (.cons _ (.swap _ _ _))))).mono ?_
  rintro _ w3 ⟨st', rfl, hM', hH', h3⟩
  refine ⟨_, rfl, cond_n (fun hne => absurd rfl hne) fun _ => (crash_at h3 hM'.pend (-1)).mono ?_⟩
  rintro _ w4 ⟨rfl, h4⟩
  refine ⟨rfl, (start_at h4).mono ?_⟩
  rintro _ w5 ⟨rfl, h5⟩
  obtain ⟨es, hM2⟩ := hM'.crashOn (kl := []) (t := -1)
  refine ⟨rfl, (open_at (S := [7]) (c := c + 1) (by rw [es]; exact hH') hM2.pend hM2.on (by omega) h5).mono ?_⟩
  rintro _ w6 ⟨p', rfl, h6⟩
  refine ⟨_, _, rfl, cond_n (fun hne => absurd rfl hne) fun _ => cond_f' rfl ((state_at h6 (by simp)).mono ?_)⟩
  rintro _ w7 ⟨s7, rfl, h7⟩
  refine ⟨_, _, _, rfl, ?_⟩
  intro w8
  have h8 : At W w8 (byA ⟨some (newA w7), 1, 1⟩ [7] :: byA s7 [7] :: _) := h7.own (made_ints (xs := [7]) (by decide)) (below_alloc _ _)
  refine (bytes_at (t := ⟨some (newA w7), 1, 1⟩) h8 (h8.bytes 1 rfl (by simp)) (h8.bytes 0 rfl (by simp))).mono ?_
  rintro _ w9 ⟨rfl, h9⟩
  refine ⟨_, rfl, cond_f' (by simp) ?_⟩
  dsimp only
  rw [inc (by omega)]
  exact hN _ ⟨Sep.nil h9.s.le, h9.b, h9.g⟩

set_option maxRecDepth 100000 in
/-- the power goes; opened anew -/
theorem ea_c4 (hRR : ∀ w, Below W.heap.size W w → RR (.bool true) w) {N : EaN} (hnc : nS.len ≤ nS.cap) (hO : Ints .u8 W oS old) (hNx : Ints .u8 W nS next) (ho : old.length ≤ 400) (hn : next.length ≤ 400) (hH : Holds st.safe c old) (hM : Mid st.safe [] true st) (hc : c < 100) (hk : k < 100) (hkl : kl.length ≤ 1000) (hkb : ∀ L w', At W w' (L ++ R) → BoolsR w' kS kl) (torn : Int)
    (hN : ∀ w', At W w' [] → N oS nS which ((k + 1 : Nat) : Int) w') (h : At W w (diskA d st :: storeA d p old :: R)) : trystlaw14_StoreEach.c4 RR N oS nS which (k : Int) (some d) (some p) kS torn w := by
  unfold trystlaw14_StoreEach.c4
  refine (trip_at h (kl := kl) (k : Int) torn (by omega) (by omega) (fun w' hw => hkb [_] w' hw)).mono ?_
  rintro _ w1 ⟨rfl, h1⟩
  refine ⟨rfl, ?_⟩
  have hM1 := hM.trip (n := (k : Int)) (torn := torn) (kl := kl) (by omega)
  have hH1 : Holds (tripD st (k : Int) kl torn).safe c old := hH
  have hM1 : Mid (tripD st (k : Int) kl torn).safe [] false (tripD st (k : Int) kl torn) := hM1
  generalize tripD st (k : Int) kl torn = st1 at h1 hM1 hH1
  refine (Save_at hH1 hM1 (by omega) (sb := nS) (b := next) (by omega) hnc (fun L w' hw => hw.ints hNx) h1).mono ?_
  rintro v w2 hs
  rcases hs with ⟨st', rfl, hM2, hH2, h2⟩ | ⟨st', rfl, _, g, hH2, h2⟩
  · refine ⟨_, rfl, cond_t rfl ((state_at h2 (by omega)).mono ?_)⟩
    rintro _ w3 ⟨s, rfl, h3⟩
    refine ⟨_, _, _, rfl, (bytes_at h3 (h3.bytes 0 rfl (by omega)) (h3.ints hNx)).mono ?_⟩
    rintro _ w4 ⟨rfl, h4⟩
    refine ⟨_, rfl, cond_t (by simp) ((wakes14_at h4).mono ?_)⟩
    rintro _ w5 ⟨rfl, h5⟩
    exact ⟨_, rfl, hRR _ h5.b⟩
  · refine ⟨_, rfl, cond_f' rfl ((start_at h2).mono ?_)⟩
    rintro _ w3 ⟨rfl, h3⟩
    refine ⟨rfl, ?_⟩
    have hM3 := g.on
    obtain ⟨c', S', hc', hS', hH3⟩ : ∃ (c' : Nat) (S' : List Int), c' ≤ c + 1 ∧ (S' = old ∨ S' = next) ∧ Holds (startD st').safe c' S' := by
      rcases hH2 with h | h
      · exact ⟨c, old, by omega, .inl rfl, h⟩
      · exact ⟨c + 1, next, by omega, .inr rfl, h⟩
    have hM3 : Mid (startD st').safe [] true (startD st') := hM3
    generalize startD st' = st3 at h3 hM3 hH3
    have few := hH3.few
    refine (open_at hH3 hM3.pend hM3.on (by omega) h3).mono ?_
    rintro _ w4 ⟨p4, rfl, h4⟩
    refine ⟨_, _, rfl, cond_n (fun hne => absurd rfl hne) fun _ => cond_n (fun hne => absurd rfl hne) fun _ => cond_f' rfl ((state_at h4 (by omega)).mono ?_)⟩
    rintro _ w5 ⟨s5, rfl, h5⟩
    refine ⟨_, _, _, rfl, (bytes_at h5 (h5.bytes 0 rfl (by omega)) (h5.ints hO)).mono ?_⟩
    rintro _ w6 ⟨rfl, h6⟩
    refine ⟨_, rfl, cond_c (fun hne => ?_) fun he => ea_c3 hH3 hM3 (by omega) hk hN h6.drop⟩
    have hS'' : S' = next := hS'.elim (fun hh => by simp [hh] at hne) id
    refine (state_at h6.drop (by omega)).mono ?_
    rintro _ w7 ⟨s7, rfl, h7⟩
    refine ⟨_, _, _, rfl, (bytes_at h7 (h7.bytes 0 rfl (by omega)) (h7.ints hNx)).mono ?_⟩
    rintro _ w8 ⟨rfl, h8⟩
    exact ⟨_, rfl, cond_f' (by simp [hS'']) (ea_c3 hH3 hM3 (by omega) hk hN h8.drop)⟩

set_option maxRecDepth 100000 in
theorem ea_c6 (hRR : ∀ w, Below W.heap.size W w → RR (.bool true) w) {N : EaN} (hnc : nS.len ≤ nS.cap) (hO : Ints .u8 W oS old) (hNx : Ints .u8 W nS next) (ho : old.length ≤ 400) (hn : next.length ≤ 400) (hH : Holds st.safe c old) (hM : Mid st.safe [] true st) (hc : c < 100) (hk : k < 100)
    (hN : ∀ w', At W w' [] → N oS nS which ((k + 1 : Nat) : Int) w') (h : At W w [diskA d st, storeA d p old]) : trystlaw14_StoreEach.c6 RR N oS nS which (k : Int) (some d) (some p) w := by
  unfold trystlaw14_StoreEach.c6
  refine ⟨by omega, ?_⟩
  refine cond_c (fun _ => ?_) fun _ => ?_
  · unfold trystlaw14_StoreEach.l5
    refine ⟨fun t w' => ∃ j : Nat, t.2 = j ∧ j ≤ 60 ∧ At W w' [diskA d st, storeA d p old, boA t.1 (List.replicate j true)], fun t _ => 60 - t.2.toNat, ⟨0, rfl, by omega, ?_⟩, ?_⟩
    · have h1 : At W w (boA ⟨none, 0, 0⟩ [] :: [diskA d st, storeA d p old]) := h.go (h.s.rowNil 4 1) (Below.refl _ _)
      exact h1.perm (.trans (.swap _ _ _) (.cons _ (.swap _ _ _)))
    clear h
    rintro ⟨kS, _⟩ w1 ⟨j, rfl, hj, h1⟩
    show trystlaw14_StoreEach.b5 RR N _ oS nS which (k : Int) (some d) (some p) (-1) kS (j : Int) w1
    have h1 : At W w1 [diskA d st, storeA d p old, boA kS (List.replicate j true)] := h1
    unfold trystlaw14_StoreEach.b5
    refine cond_d (fun hlt => ?_) fun hge => ?_
    · intro w21
      obtain ⟨s', w', run, h2⟩ := h1.boMore 2 rfl true (by simp; omega)
      refine ⟨_, _, _, w', run, ?_⟩
      dsimp only
      rw [inc (by omega)]
      refine ⟨⟨rfl, rfl, rfl, rfl, rfl, rfl, rfl, j + 1, rfl, by omega, ?_⟩, by (try dsimp only); omega⟩
      rw [List.replicate_succ']
      exact h2
    · exact ea_c4 hRR hnc hO hNx ho hn hH hM hc hk (kl := List.replicate j true) (by simp; omega) (fun L w' hw => hw.dropL.bools 0 rfl) (-1) hN h1
  · refine cond_c (fun _ => ?_) fun _ => ?_
    · exact ea_c4 hRR hnc hO hNx ho hn hH hM hc hk (kl := []) (kS := ⟨none, 0, 0⟩) (by simp) (fun L w' hw => BoolsR.nil) _ hN h
    · exact ea_c4 hRR hnc hO hNx ho hn hH hM hc hk (kl := []) (kS := ⟨none, 0, 0⟩) (by simp) (fun L w' hw => BoolsR.nil) _ hN h
end

set_option maxRecDepth 100000 in
theorem seach_spec {W : World} (hg : W.cell? ⟨0, 0, none⟩ = some errT) {oS : Sl} {old : List Int} (hO : oS.len ≤ oS.cap ∧ Ints .u8 W oS old) {nS : Sl} {next : List Int} (hN : nS.len ≤ nS.cap ∧ Ints .u8 W nS next) (which : Int) :
    CallsV Tryd.prog n_trystlaw14_StoreEach #[.slice oS.a oS.len oS.cap, .slice nS.a nS.len nS.cap, .int .i64 which] W fun v w' => v = .bool true ∧ Below W.heap.size W w' := by
  refine trystlaw14_StoreEach.lift ?_
  unfold trystlaw14_StoreEach.main
  generalize hRR : (fun (v : Value) (w' : World) => v = .bool true ∧ Below W.heap.size W w') = RR
  have hRR' : ∀ w, Below W.heap.size W w → RR (.bool true) w := fun w hb => by rw [← hRR]; exact ⟨rfl, hb⟩
  have hol := hO.2.len
  have hnl := hN.2.len
  refine cond_d (fun _ => hRR' _ (Below.refl _ _)) fun ho => cond_d (fun _ => hRR' _ (Below.refl _ _)) fun hn => ?_
  have hS := At.start hg
  unfold trystlaw14_StoreEach.c8 trystlaw14_StoreEach.l2
  refine ⟨fun t w' => ∃ k : Nat, t = k ∧ k ≤ 40 ∧ At W w' [], fun t _ => 40 - t.toNat, ⟨1, rfl, by omega, hS⟩, ?_⟩
  rintro _ w1 ⟨k, rfl, hk, h1⟩
  unfold trystlaw14_StoreEach.b2
  refine cond_d (fun hlt => ?_) fun hge => ?_
  · have hH : Holds (newD 300).safe 0 [] := Holds.new (by omega)
    have hM := Mid.new 300
    refine (new_at h1 300 (by omega) (by omega)).mono ?_
    rintro _ w2 ⟨d, rfl, h2⟩
    generalize newD 300 = st at h2 hH hM
    refine ⟨_, _, rfl, cond_n (fun hne => absurd rfl hne) fun _ => cond_f' rfl ?_⟩
    unfold trystlaw14_StoreEach.c7
    refine (open_at hH hM.pend hM.on (by omega) h2).mono ?_
    rintro _ w3 ⟨p, rfl, h3⟩
    refine ⟨_, _, rfl, cond_n (fun hne => absurd rfl hne) fun _ => cond_f' rfl ?_⟩
    refine (Save_quiet hH hM (by omega) (sb := oS) (b := old) (by omega) hO.1 (fun L w' hw => hw.ints hO.2) h3).mono ?_
    rintro _ w4 ⟨st', rfl, hM', hH', h4⟩
    refine ⟨_, rfl, cond_n (fun hne => absurd rfl hne) fun _ => ea_c6 hRR' hN.1 hO.2 hN.2 (by omega) (by omega) hH' hM' (by omega) (by omega) (fun w' hw => ?_) h4⟩
    exact ⟨⟨rfl, rfl, rfl, k + 1, rfl, by omega, hw⟩, by (try dsimp only); omega⟩
  · unfold trystlaw14_StoreEach.c1
    refine (wakes14_at h1).mono ?_
    rintro _ w6 ⟨rfl, h6⟩
    exact ⟨_, rfl, hRR' _ h6.b⟩

end Go.Proofs.YtledhokhcoeeeaaDoor
