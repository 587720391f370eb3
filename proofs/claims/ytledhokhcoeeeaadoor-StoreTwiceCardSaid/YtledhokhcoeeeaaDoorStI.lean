/-
  StoreTwice: the law.
-/
import Derived.Test.YtledhokhcoeeeaaDoorStH
import Derived.Test.YtledhokhcoeeeaaDoorStTF
set_option linter.unusedVariables false
set_option linter.unusedVariables false
set_option linter.unusedSimpArgs false
namespace Go.Proofs.YtledhokhcoeeeaaDoor
open Go.Lf Go.RowKit

section
variable {W w w' : World} {aS bS xS yS : Sl} {la lb : List (List Int)} {d1 d2 p1 p2 : Addr} {st1 st2 : DS} {S1 S2 : List Int} {RR : Value → World → Prop}

/-- two stores, and what is wanted of them -/
abbrev twL (d1 d2 p1 p2 : Addr) (st1 st2 : DS) (S1 S2 : List Int) (xS yS : Sl) : List Asn := [diskA d1 st1, storeA d1 p1 S1, diskA d2 st2, storeA d2 p2 S2, byA xS S1, byA yS S2]
structure TwIn (st : DS) (c : Nat) (S : List Int) (i : Nat) : Prop where
  h : Holds st.safe c S
  m : Mid st.safe [] true st
  c : c ≤ i
  l : S.length ≤ 500

abbrev TwN := Sl → Sl → Option Addr → Option Addr → Sl → Sl → Int → World → Prop

theorem tw_c3 {N : TwN} {i c1 c2 : Nat} (t1 : TwIn st1 c1 S1 (i + 1)) (t2 : TwIn st2 c2 S2 (i + 1)) (hi : i < 100) (hN : ∀ w', At W w' (twL d1 d2 p1 p2 st1 st2 S1 S2 xS yS) → N aS bS (some p1) (some p2) xS yS ((i + 1 : Nat) : Int) w')
    (h : At W w (twL d1 d2 p1 p2 st1 st2 S1 S2 xS yS)) : trystlaw14_StoreTwice.c3 RR N aS bS (some p1) (some p2) xS yS (i : Int) w := by
  have l1 := t1.l
  have l2 := t2.l
  unfold trystlaw14_StoreTwice.c3
  refine (state_at h (by omega)).mono ?_
  rintro _ w2 ⟨s, rfl, h2⟩
  refine ⟨_, _, _, rfl, (spoil_at (by omega) h2).mono ?_⟩
  rintro _ w3 ⟨rfl, h3⟩
  refine ⟨rfl, (state_at h3 (by omega)).mono ?_⟩
  rintro _ w4 ⟨s4, rfl, h4⟩
  refine ⟨_, _, _, rfl, (bytes_at h4 (h4.bytes 0 rfl (by omega)) (h4.bytes 5 rfl (by omega))).mono ?_⟩
  rintro _ w5 ⟨rfl, h5⟩
  refine ⟨_, rfl, cond_f' (by simp) ?_⟩
  have h6 : At W w5 (diskA d2 st2 :: storeA d2 p2 S2 :: diskA d1 st1 :: storeA d1 p1 S1 :: byA xS S1 :: byA yS S2 :: []) := h5.drop.perm (List.perm_append_comm_assoc [_, _] [_, _] [_, _])
  refine (state_at h6 (by omega)).mono ?_
  rintro _ w6 ⟨s6, rfl, h7⟩
  refine ⟨_, _, _, rfl, (bytes_at h7 (h7.bytes 0 rfl (by omega)) (h7.bytes 6 rfl (by omega))).mono ?_⟩
  rintro _ w7 ⟨rfl, h8⟩
  refine ⟨_, rfl, cond_f' (by simp) ?_⟩
  dsimp only
  rw [inc (by omega)]
  exact hN _ (h8.drop.perm (List.perm_append_comm_assoc [_, _] [_, _] [_, _]))

set_option maxRecDepth 100000 in
theorem tw_c4 (hRR : ∀ w, Below W.heap.size W w → RR (.bool true) w) {N : TwN} {i c1 c2 : Nat} (hB : Bss W bS lb) (t1 : TwIn st1 c1 S1 (i + 1)) (t2 : TwIn st2 c2 S2 i) (hi : i < 100) (hN : ∀ st2 c2 S2 yS w', TwIn st2 c2 S2 (i + 1) → At W w' (twL d1 d2 p1 p2 st1 st2 S1 S2 xS yS) → N aS bS (some p1) (some p2) xS yS ((i + 1 : Nat) : Int) w')
    (h : At W w (twL d1 d2 p1 p2 st1 st2 S1 S2 xS yS)) : trystlaw14_StoreTwice.c4 RR N aS bS (some p1) (some p2) xS yS (i : Int) w := by
  have hbl := hB.len
  have hc2 := t2.c
  unfold trystlaw14_StoreTwice.c4
  refine cond_d (fun hlt => ?_) fun hge => ?_
  · have hib : i < lb.length := by omega
    obtain ⟨q, t, hq, hc, ht, hI⟩ := hB.get hib
    have hIl := hI.len
    have hcw := h.cellW hc
    refine ⟨by omega, hlt, q, hq, _, _, _, by rw [Int.toNat_natCast]; exact hcw, cond_d (fun _ => hRR _ h.b) fun hle => ?_⟩
    refine ⟨by omega, hlt, q, hq, _, _, _, by rw [Int.toNat_natCast]; exact hcw, (twin_at h (h.ints hI) (by omega)).mono ?_⟩
    rintro _ w2 ⟨y, rfl, h2⟩
    refine ⟨_, _, _, rfl, by omega, hlt, q, hq, _, _, _, by rw [Int.toNat_natCast]; exact h2.cellW hc, ?_⟩
    have h3 : At W w2 (diskA d2 st2 :: storeA d2 p2 S2 :: byA y lb[i] :: diskA d1 st1 :: storeA d1 p1 S1 :: byA xS S1 :: byA yS S2 :: []) := h2.perm (List.perm_append_comm_assoc [_, _, _] [_, _] [_, _])
    refine (Save_quiet t2.h t2.m (by omega) (sb := t) (b := lb[i]) (by omega) ht (fun L w' hw => hw.ints hI) h3).mono ?_
    rintro _ w4 ⟨st', rfl, hM, hH, h4⟩
    refine ⟨_, rfl, cond_n (fun hne => absurd rfl hne) fun _ => ?_⟩
    have t2' : TwIn st' (c2 + 1) lb[i] (i + 1) := ⟨hH, hM, by omega, by omega⟩
    have h5 : At W w4 (twL d1 d2 p1 p2 st1 st' S1 lb[i] xS y) := (h4.less 6 rfl).perm (.trans (List.perm_append_comm_assoc [_, _, _] [_, _] [_]) (.cons _ (.cons _ (.cons _ (.cons _ (.swap _ _ _))))))
    exact tw_c3 t1 t2' hi (fun w' hw => hN _ _ _ _ w' t2' hw) h5
  · have t2' : TwIn st2 c2 S2 (i + 1) := ⟨t2.h, t2.m, by omega, t2.l⟩
    exact tw_c3 t1 t2' hi (fun w' hw => hN _ _ _ _ w' t2' hw) h

set_option maxRecDepth 100000 in
theorem tw_c5 (hRR : ∀ w, Below W.heap.size W w → RR (.bool true) w) {N : TwN} {i c1 c2 : Nat} (hA : Bss W aS la) (hB : Bss W bS lb) (t1 : TwIn st1 c1 S1 i) (t2 : TwIn st2 c2 S2 i) (hi : i < 100) (hN : ∀ st1 c1 S1 xS st2 c2 S2 yS w', TwIn st1 c1 S1 (i + 1) → TwIn st2 c2 S2 (i + 1) → At W w' (twL d1 d2 p1 p2 st1 st2 S1 S2 xS yS) → N aS bS (some p1) (some p2) xS yS ((i + 1 : Nat) : Int) w')
    (h : At W w (twL d1 d2 p1 p2 st1 st2 S1 S2 xS yS)) : trystlaw14_StoreTwice.c5 RR N aS bS (some p1) (some p2) xS yS (i : Int) w := by
  have hal := hA.len
  have hc1 := t1.c
  unfold trystlaw14_StoreTwice.c5
  refine cond_d (fun hlt => ?_) fun hge => ?_
  · have hia : i < la.length := by omega
    obtain ⟨q, t, hq, hc, ht, hI⟩ := hA.get hia
    have hIl := hI.len
    have hcw := h.cellW hc
    refine ⟨by omega, hlt, q, hq, _, _, _, by rw [Int.toNat_natCast]; exact hcw, cond_d (fun _ => hRR _ h.b) fun hle => ?_⟩
    refine ⟨by omega, hlt, q, hq, _, _, _, by rw [Int.toNat_natCast]; exact hcw, (twin_at h (h.ints hI) (by omega)).mono ?_⟩
    rintro _ w2 ⟨x, rfl, h2⟩
    refine ⟨_, _, _, rfl, by omega, hlt, q, hq, _, _, _, by rw [Int.toNat_natCast]; exact h2.cellW hc, ?_⟩
    have h3 : At W w2 (diskA d1 st1 :: storeA d1 p1 S1 :: byA x la[i] :: diskA d2 st2 :: storeA d2 p2 S2 :: byA xS S1 :: byA yS S2 :: []) := h2.perm (.trans (.swap _ _ _) (.cons _ (.swap _ _ _)))
    refine (Save_quiet t1.h t1.m (by omega) (sb := t) (b := la[i]) (by omega) ht (fun L w' hw => hw.ints hI) h3).mono ?_
    rintro _ w4 ⟨st', rfl, hM, hH, h4⟩
    refine ⟨_, rfl, cond_n (fun hne => absurd rfl hne) fun _ => ?_⟩
    have t1' : TwIn st' (c1 + 1) la[i] (i + 1) := ⟨hH, hM, by omega, by omega⟩
    have h5 : At W w4 (twL d1 d2 p1 p2 st' st2 la[i] S2 x yS) := (h4.less 5 rfl).perm (.cons _ (.cons _ (.trans (.swap _ _ _) (.cons _ (.swap _ _ _)))))
    exact tw_c4 hRR hB t1' t2 hi (fun st2 c2 S2 yS w' h1 hw => hN _ _ _ _ _ _ _ _ w' t1' h1 hw) h5
  · have t1' : TwIn st1 c1 S1 (i + 1) := ⟨t1.h, t1.m, by omega, t1.l⟩
    exact tw_c4 hRR hB t1' t2 hi (fun st2 c2 S2 yS w' h1 hw => hN _ _ _ _ _ _ _ _ w' t1' h1 hw) h
end

set_option maxRecDepth 100000 in
theorem stwice_spec {W : World} (hg : W.cell? ⟨0, 0, none⟩ = some errT) {aS : Sl} {la : List (List Int)} (hA : Bss W aS la) {bS : Sl} {lb : List (List Int)} (hB : Bss W bS lb) :
    CallsV Tryd.prog n_trystlaw14_StoreTwice #[.slice aS.a aS.len aS.cap, .slice bS.a bS.len bS.cap] W fun v w' => v = .bool true ∧ Below W.heap.size W w' := by
  refine trystlaw14_StoreTwice.lift ?_
  unfold trystlaw14_StoreTwice.main
  generalize hRR : (fun (v : Value) (w' : World) => v = .bool true ∧ Below W.heap.size W w') = RR
  have hRR' : ∀ w, Below W.heap.size W w → RR (.bool true) w := fun w hb => by rw [← hRR]; exact ⟨rfl, hb⟩
  refine cond_d (fun _ => hRR' _ (Below.refl _ _)) fun ha10 => cond_d (fun _ => hRR' _ (Below.refl _ _)) fun hb10 => ?_
  have hS := At.start hg
  unfold trystlaw14_StoreTwice.c8
  have hH : Holds (newD 512).safe 0 [] := Holds.new (by omega)
  have hM := Mid.new 512
  refine (new_at hS 512 (by omega) (by omega)).mono ?_
  rintro _ w1 ⟨d1, rfl, h1⟩
  refine ⟨_, _, rfl, (new_at h1 512 (by omega) (by omega)).mono ?_⟩
  rintro _ w2 ⟨d2, rfl, h2⟩
  generalize newD 512 = st at h2 hH hM
  refine ⟨_, _, rfl, cond_n (fun hne => absurd rfl hne) fun _ => cond_n (fun hne => absurd rfl hne) fun _ => ?_⟩
  unfold trystlaw14_StoreTwice.c7
  refine (open_at hH hM.pend hM.on (by omega) h2.swap).mono ?_
  rintro _ w3 ⟨p1, rfl, h3⟩
  have h3 : At W w3 (diskA d2 st :: diskA d1 st :: storeA d1 p1 [] :: []) := h3.front 2 rfl
  refine ⟨_, _, rfl, (open_at hH hM.pend hM.on (by omega) h3).mono ?_⟩
  rintro _ w4 ⟨p2, rfl, h4⟩
  refine ⟨_, _, rfl, cond_n (fun hne => absurd rfl hne) fun _ => cond_n (fun hne => absurd rfl hne) fun _ => cond_f' rfl (cond_f' rfl ?_)⟩
  have h5 : At W w4 (twL d1 d2 p1 p2 st st [] [] ⟨none, 0, 0⟩ ⟨none, 0, 0⟩) := by
    have h6 : At W w4 (byA ⟨none, 0, 0⟩ [] :: byA ⟨none, 0, 0⟩ [] :: diskA d2 st :: storeA d2 p2 [] :: diskA d1 st :: storeA d1 p1 [] :: []) := h4.noBytes.noBytes
    exact h6.perm (.trans (List.perm_append_comm (l₁ := [_, _]) (l₂ := [_, _, _, _])) (List.perm_append_comm_assoc [_, _] [_, _] [_, _]))
  have t0 : TwIn st 0 [] 0 := ⟨hH, hM, Nat.le_refl _, by simp⟩
  unfold trystlaw14_StoreTwice.c6 trystlaw14_StoreTwice.l2
  refine ⟨fun t w' => ∃ (i c1 c2 : Nat) (S1 S2 : List Int) (st1 st2 : DS), t.2.2 = i ∧ i ≤ 10 ∧ TwIn st1 c1 S1 i ∧ TwIn st2 c2 S2 i ∧ At W w' (twL d1 d2 p1 p2 st1 st2 S1 S2 t.1 t.2.1), fun t _ => 20 - t.2.2.toNat, ⟨0, 0, 0, [], [], st, st, rfl, by omega, t0, t0, h5⟩, ?_⟩
  clear h5 h4 h3 h2 h1 t0 hH hM
  rintro ⟨xS, yS, _⟩ w5 ⟨i, c1, c2, S1, S2, st1, st2, rfl, hi, t1, t2, h5⟩
  show trystlaw14_StoreTwice.b2 RR _ aS bS (some p1) (some p2) xS yS (i : Int) w5
  have h5 : At W w5 (twL d1 d2 p1 p2 st1 st2 S1 S2 xS yS) := h5
  unfold trystlaw14_StoreTwice.b2
  refine cond_d (fun hlt => ?_) fun hge => cond_d (fun hlt => ?_) fun hge2 => ?_
  · refine tw_c5 hRR' hA hB t1 t2 (by omega) (fun st1 c1 S1 xS st2 c2 S2 yS w' k1 k2 hw => ?_) h5
    exact ⟨⟨rfl, rfl, rfl, rfl, i + 1, c1, c2, S1, S2, st1, st2, rfl, by omega, k1, k2, hw⟩, by (try dsimp only); omega⟩
  · refine tw_c5 hRR' hA hB t1 t2 (by omega) (fun st1 c1 S1 xS st2 c2 S2 yS w' k1 k2 hw => ?_) h5
    exact ⟨⟨rfl, rfl, rfl, rfl, i + 1, c1, c2, S1, S2, st1, st2, rfl, by omega, k1, k2, hw⟩, by (try dsimp only); omega⟩
  · unfold trystlaw14_StoreTwice.c1
    refine (wakes14_at h5).mono ?_
    rintro _ w6 ⟨rfl, h6⟩
    exact ⟨_, rfl, hRR' _ h6.b⟩

end Go.Proofs.YtledhokhcoeeeaaDoor
