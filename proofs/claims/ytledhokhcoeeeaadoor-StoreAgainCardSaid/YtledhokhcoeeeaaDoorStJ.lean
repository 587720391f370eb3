/-
  StoreAgain: the law.
-/
import Derived.Test.YtledhokhcoeeeaaDoorStH
import Derived.Test.YtledhokhcoeeeaaDoorStRF
set_option linter.unusedVariables false
set_option linter.unusedVariables false
set_option linter.unusedSimpArgs false
namespace Go.Proofs.YtledhokhcoeeeaaDoor
open Go.Lf Go.RowKit

theorem crash_eq' {safe : List (Option (List Int))} {q : Bool} {st : DS} (h : Mid safe [] q st) {kl : List Bool} {t : Int} : crashD st kl t = ⟨st.safe, [], true, none⟩ := by
  obtain ⟨a, b, c, d⟩ := st
  obtain ⟨h1, h2, h3, _, _⟩ := h
  dsimp only at h1 h2 h3
  subst h2 h3
  rfl
structure AgIn (st : DS) (c : Nat) (S : List Int) (i : Nat) : Prop where
  h : Holds st.safe c S
  m : Mid st.safe [] true st
  c : c ≤ i
  l : S.length ≤ 500

section
variable {W w w' : World} {lS wS : Sl} {l : List (List Int)} {d p : Addr} {st : DS} {S : List Int} {RR : Value → World → Prop} {opens : Int} {i c : Nat}

abbrev AgN := Sl → Int → Option Addr → Sl → Int → World → Prop

set_option maxRecDepth 100000 in
/-- saved; told; every other time the power goes -/
theorem ag_c4 (hRR : ∀ w, Below W.heap.size W w → RR (.bool true) w) {N : AgN} (hL : Bss W lS l) (t : AgIn st c S i) (hi : i ≤ l.length) (h12 : l.length ≤ 12)
    (hN : ∀ st' c' S' wS' w', AgIn st' c' S' (i + 1) → At W w' [byA wS' S', diskA d st'] → i < l.length → N lS opens (some d) wS' ((i + 1 : Nat) : Int) w')
    (h : At W w [diskA d st, storeA d p S, byA wS S]) : trystlaw14_StoreAgain.c4 RR N lS opens (some d) (i : Int) (some p) w := by
  have hll := hL.len
  have hc := t.c
  unfold trystlaw14_StoreAgain.c4
  refine cond_e (fun he => ?_) fun hne => ?_
  · unfold trystlaw14_StoreAgain.c1
    refine (wakes14_at h).mono ?_
    rintro _ w6 ⟨rfl, h6⟩
    exact ⟨_, rfl, hRR _ h6.b⟩
  have hil : i < l.length := by omega
  obtain ⟨q, t1, hq, hcell, ht, hI⟩ := hL.get hil
  have hIl := hI.len
  refine ⟨by omega, by omega, q, hq, _, _, _, by rw [Int.toNat_natCast]; exact h.cellW hcell, cond_d (fun _ => hRR _ h.b) fun hle => ?_⟩
  have hd := h.drew
  refine ⟨fun u => Below W.heap.size W u, hd.b, by omega, by omega, q, hq, _, _, _, fun u hu => by rw [Int.toNat_natCast]; exact Below.here hu hcell, ?_⟩
  refine (Save_quiet t.h t.m (by omega) (sb := t1) (b := l[i]) (by omega) ht (fun L w' hw => hw.ints hI) hd).mono ?_
  rintro _ w5 ⟨st', rfl, hM, hH, h5⟩
  refine ⟨_, rfl, fun u => Below W.heap.size W u, fun u hu => hu, h5.b, cond_n (fun hne => absurd rfl hne) fun _ => ?_⟩
  refine ⟨by omega, by omega, q, hq, _, _, _, fun u hu => by rw [Int.toNat_natCast]; exact Below.here hu hcell, (state_at h5 (by omega)).mono ?_⟩
  rintro _ w6 ⟨s6, rfl, h6⟩
  refine ⟨_, _, _, rfl, h6.b, (bytes_at h6 (h6.bytes 0 rfl (by omega)) (h6.ints hI)).mono ?_⟩
  rintro _ w7 ⟨rfl, h7⟩
  refine ⟨_, rfl, cond_f' (by simp) ?_⟩
  unfold trystlaw14_StoreAgain.c3
  have h8 : At W w7 [diskA d st'] := ((h7.less 3 rfl).less 2 rfl).drop
  refine ⟨by omega, by omega, q, hq, _, _, _, by rw [Int.toNat_natCast]; exact h8.cellW hcell, (twin_at h8 (h8.ints hI) (by omega)).mono ?_⟩
  rintro _ w9 ⟨s9, rfl, h9⟩
  refine ⟨_, _, _, rfl, by omega, cond_e (fun h1 => ?_) fun h1 => ?_⟩
  · refine (crash_at h9.swap hM.pend (-1)).mono ?_
    rintro _ w10 ⟨rfl, h10⟩
    rw [crash_eq' hM] at h10
    refine ⟨rfl, (start_at h10).mono ?_⟩
    rintro _ w11 ⟨rfl, h11⟩
    refine ⟨rfl, ?_⟩
    dsimp only
    rw [inc (by omega)]
    exact hN (startD ⟨st'.safe, [], true, none⟩) (c + 1) l[i] s9 w11 ⟨hH, ⟨rfl, rfl, rfl, (fun t h => by cases h), fun _ => rfl⟩, by omega, by omega⟩ h11.swap hil
  · dsimp only
    rw [inc (by omega)]
    exact hN st' (c + 1) l[i] s9 w9 ⟨hH, hM, by omega, by omega⟩ h9 hil
end

set_option maxRecDepth 100000 in
theorem sagain_spec {W : World} (hg : W.cell? ⟨0, 0, none⟩ = some errT) {lS : Sl} {l : List (List Int)} (hL : Bss W lS l) (opens : Int) :
    CallsV Tryd.prog n_trystlaw14_StoreAgain #[.slice lS.a lS.len lS.cap, .int .i64 opens] W fun v w' => v = .bool true ∧ Below W.heap.size W w' := by
  refine trystlaw14_StoreAgain.lift ?_
  unfold trystlaw14_StoreAgain.main
  generalize hRR : (fun (v : Value) (w' : World) => v = .bool true ∧ Below W.heap.size W w') = RR
  have hRR' : ∀ w, Below W.heap.size W w → RR (.bool true) w := fun w hb => by rw [← hRR]; exact ⟨rfl, hb⟩
  have hll := hL.len
  refine cond_d (fun _ => hRR' _ (Below.refl _ _)) fun h12 => cond_d (fun _ => hRR' _ (Below.refl _ _)) fun h0 => cond_d (fun _ => hRR' _ (Below.refl _ _)) fun h10 => ?_
  have hS := At.start hg
  unfold trystlaw14_StoreAgain.c7
  have hH : Holds (newD 512).safe 0 [] := Holds.new (by omega)
  have hM := Mid.new 512
  refine (new_at hS 512 (by omega) (by omega)).mono ?_
  rintro _ w1 ⟨d, rfl, h1⟩
  generalize newD 512 = st at h1 hH hM
  refine ⟨_, _, rfl, cond_n (fun hne => absurd rfl hne) fun _ => cond_f' rfl ?_⟩
  unfold trystlaw14_StoreAgain.c6 trystlaw14_StoreAgain.l2
  refine ⟨fun t w' => ∃ (i c : Nat) (S : List Int) (st : DS), t.2 = i ∧ i ≤ l.length ∧ AgIn st c S i ∧ At W w' [byA t.1 S, diskA d st], fun t _ => 20 - t.2.toNat, ⟨0, 0, [], st, rfl, by omega, ⟨hH, hM, Nat.le_refl _, by simp⟩, h1.noBytes⟩, ?_⟩
  clear h1 hH hM
  rintro ⟨wS, _⟩ w2 ⟨i, c, S, st, rfl, hi, t, h2⟩
  show trystlaw14_StoreAgain.b2 RR _ lS opens (some d) wS (i : Int) w2
  have h2 : At W w2 [byA wS S, diskA d st] := h2
  have hc := t.c
  have hSl := t.l
  unfold trystlaw14_StoreAgain.b2
  refine cond_d (fun hle => ?_) fun hgt => by omega
  unfold trystlaw14_StoreAgain.l5
  refine ⟨fun s w' => ∃ k : Nat, s.2 = k ∧ (k = 0 → At W w' [byA wS S, diskA d st]) ∧ (0 < k → ∃ p, s.1 = some p ∧ At W w' [diskA d st, storeA d p S, byA wS S]), fun s _ => 20 - s.2.toNat, ⟨0, rfl, fun _ => h2, fun hk => absurd hk (by omega)⟩, ?_⟩
  clear h2
  rintro ⟨s9, _⟩ w3 ⟨k, rfl, hk0, hk1⟩
  show trystlaw14_StoreAgain.b5 RR _ _ lS opens (some d) wS (i : Int) s9 (k : Int) w3
  unfold trystlaw14_StoreAgain.b5
  refine cond_d (fun hlt => ?_) fun hge => ?_
  · have h3 : At W w3 [diskA d st, byA wS S] := by
      rcases Nat.eq_zero_or_pos k with h | h
      · exact (hk0 h).swap
      · obtain ⟨p, _, hp⟩ := hk1 h
        exact hp.less 1 rfl
    refine (open_at t.h t.m.pend t.m.on (by omega) h3).mono ?_
    rintro _ w4 ⟨p, rfl, h4⟩
    refine ⟨_, _, rfl, cond_n (fun hne => absurd rfl hne) fun _ => cond_f' rfl ((state_at h4 (by omega)).mono ?_)⟩
    rintro _ w5 ⟨s5, rfl, h5⟩
    refine ⟨_, _, _, rfl, (bytes_at h5 (h5.bytes 0 rfl (by omega)) (h5.bytes 3 rfl (by omega))).mono ?_⟩
    rintro _ w6 ⟨rfl, h6⟩
    refine ⟨_, rfl, cond_f' (by simp) ?_⟩
    dsimp only
    rw [inc (by omega)]
    exact ⟨⟨rfl, rfl, rfl, rfl, rfl, k + 1, rfl, fun h => absurd h (by omega), fun _ => ⟨p, rfl, h6.drop⟩⟩, by (try dsimp only); omega⟩
  · have hk : 0 < k := by omega
    obtain ⟨p, hp, h3⟩ := hk1 hk
    have hp : s9 = some p := hp
    subst hp
    refine ag_c4 hRR' hL t hi (by omega) (fun st' c' S' wS' w' t' hw hlt => ?_) h3
    exact ⟨⟨rfl, rfl, rfl, i + 1, c', S', st', rfl, by omega, t', hw⟩, by (try dsimp only); omega⟩

end Go.Proofs.YtledhokhcoeeeaaDoor
