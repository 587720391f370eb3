/-
  Rounds of servers: twins, comparisons, rows of numbers; the page's Round.
-/
import Derived.Test.YtoclhecldmahiaaDoorMxO
import Derived.Test.YtoclhecldmahiaaDoorM3Fns
set_option linter.unusedVariables false
set_option linter.unusedVariables false
set_option linter.unusedSimpArgs false
namespace Go.Proofs.YtoclhecldmahiaaDoor
open Go.Lf Go.RowKit

abbrev nil4 : List Value := [.slice none 0 0, .slice none 0 0, .slice none 0 0, .slice none 0 0]
def mixEq (a b : MxS) : Prop := a.regs = b.regs ∧ ∀ k, k < 3 → a.seen k = b.seen k
instance (a b : MxS) : Decidable (mixEq a b) := by
  have : Decidable (∀ k, k < 3 → a.seen k = b.seen k) := Nat.decidableBallLT 3 (fun k _ => a.seen k = b.seen k)
  exact instDecidableAnd

/-- what a mix reads as -/
structure MixRd (W : World) (R : List Asn) (sr : Sl) (ss : Nat → Sl) (st : MxS) : Prop where
  regs : ∀ L w', At W w' (L ++ R) → Regs w' sr st.regs
  seen : ∀ k, k < 3 → ∀ L w', At W w' (L ++ R) → Ints .i64 w' (ss k) (st.seen k)
theorem MixRd.up {W : World} {R : List Asn} {sr : Sl} {ss : Nat → Sl} {st : MxS} (h : MixRd W R sr ss st) (K : List Asn) : MixRd W (K ++ R) sr ss st :=
  ⟨fun L w' hw => h.regs (L ++ K) w' (by rw [List.append_assoc]; exact hw), fun k hk L w' hw => h.seen k hk (L ++ K) w' (by rw [List.append_assoc]; exact hw)⟩
theorem MixRd.of {W : World} {R : List Asn} {sr : Sl} {ss : Nat → Sl} {st : MxS} (hl : ∀ k, k < 3 → (st.seen k).length ≤ 100000000) : MixRd W (mixL sr ss st ++ R) sr ss st :=
  ⟨fun L w' hw => regNow 0 rfl hw.dropL.s, fun k hk L w' hw => by
    have hk2 := hl k hk
    have : k = 0 ∨ k = 1 ∨ k = 2 := by omega
    rcases this with rfl | rfl | rfl
    · exact rowNow 1 rfl hw.dropL.s (by omega)
    · exact rowNow 2 rfl hw.dropL.s (by omega)
    · exact rowNow 3 rfl hw.dropL.s (by omega)⟩

section
variable {W w w' : World} {L R Y : List Asn} {y p : Addr} {T T1 : List Tm} {nw : Int} {sec sp sr sl : Sl} {ss : Nat → Sl} {st : MxS} {Z : List (Sl × List Int)} {secs l : List Int}

theorem seen_putP {s : Nat} {s' : Sl} {ys : List Int} (h : At W w (ownA s' ys :: (pmxL y sr ss st ++ Y))) (hs : s < 3) : Wr w ((y.add 1).add s) ∧
    At W (w.setCell ((y.add 1).add s) (.slice s'.a s'.len s'.cap)) (pmxL y sr (fun j => if j = s then s' else ss j) (seenAt st s ys) ++ Y) := by
  rw [add_add]
  have h0 : At W w (ownA s' ys :: boxA y [sV sr, sV (ss 0), sV (ss 1), sV (ss 2)] :: regA sr st.regs :: ownA (ss 0) (st.seen 0) :: ownA (ss 1) (st.seen 1) :: ownA (ss 2) (st.seen 2) :: Y) := h
  have : s = 0 ∨ s = 1 ∨ s = 2 := by omega
  rcases this with rfl | rfl | rfl
  · obtain ⟨wr, h1⟩ := h0.poke 1 rfl (j := 1) (by simp) (sV s')
    have h2 : At W (w.setCell (y.add 1) (sV s')) (ownA s' ys :: boxA y [sV sr, sV s', sV (ss 1), sV (ss 2)] :: regA sr st.regs :: ownA (ss 1) (st.seen 1) :: ownA (ss 2) (st.seen 2) :: Y) := h1.less 3 rfl
    exact ⟨wr, h2.perm (permK (K := [_]) (S := [_]))⟩
  · obtain ⟨wr, h1⟩ := h0.poke 1 rfl (j := 2) (by simp) (sV s')
    have h2 : At W (w.setCell (y.add 2) (sV s')) (ownA s' ys :: boxA y [sV sr, sV (ss 0), sV s', sV (ss 2)] :: regA sr st.regs :: ownA (ss 0) (st.seen 0) :: ownA (ss 2) (st.seen 2) :: Y) := h1.less 4 rfl
    exact ⟨wr, h2.perm (permK (K := [_]) (S := [_, _]))⟩
  · obtain ⟨wr, h1⟩ := h0.poke 1 rfl (j := 3) (by simp) (sV s')
    have h2 : At W (w.setCell (y.add 3) (sV s')) (ownA s' ys :: boxA y [sV sr, sV (ss 0), sV (ss 1), sV s'] :: regA sr st.regs :: ownA (ss 0) (st.seen 0) :: ownA (ss 1) (st.seen 1) :: Y) := h1.less 5 rfl
    exact ⟨wr, h2.perm (permK (K := [_]) (S := [_, _, _]))⟩

theorem twinmix_at (h : At W w R) (hM : MixRd W R sr ss st) (hrl : st.regs.length ≤ 1000000) (hsl : ∀ k, k < 3 → (st.seen k).length ≤ 100000000) :
    CallsV Tryd.prog n_trystkeep_TwinMix #[mV sr ss] w fun v w' => ∃ (sr' : Sl) (ss' : Nat → Sl), v = mV sr' ss' ∧ At W w' (mixL sr' ss' st ++ R) := by
  refine trystkeep_TwinMix.lift (m0_0 := sr) (m0_1 := ss 0) (m0_2 := ss 1) (m0_3 := ss 2) ?_
  unfold trystkeep_TwinMix.main
  intro w4 w5 w6
  have h4 : At W w4 (boxA (newA w) [sV sr, sV (ss 0), sV (ss 1), sV (ss 2)] :: R) := h.box 127 [sV sr, sV (ss 0), sV (ss 1), sV (ss 2)]
  have h5 : At W w5 (boxA (newA w4) nil4 :: boxA (newA w) [sV sr, sV (ss 0), sV (ss 1), sV (ss 2)] :: R) := h4.box 127 nil4
  have h6 : At W w6 (boxA (newA w5) nil4 :: boxA (newA w4) nil4 :: boxA (newA w) [sV sr, sV (ss 0), sV (ss 1), sV (ss 2)] :: R) := h5.box 127 nil4
  clear_value w6
  generalize newA w5 = ou at h6 ⊢
  generalize newA w4 = tb at h6 ⊢
  generalize newA w = mb at h6 ⊢
  clear h4 h5
  refine ⟨_, _, _, h6.s.cell0 2 rfl rfl, ?_⟩
  refine (twin_regs h6 (s := sr) (hM.regs [_, _, _] w6 h6) hrl).mono ?_
  rintro _ w7 ⟨sr', rfl, h7⟩
  obtain ⟨wr, h8⟩ := h7.poke0 1 rfl (by simp) (sV sr')
  refine ⟨_, _, _, rfl, wr, ?_⟩
  intro w8
  have h8 : At W w8 (regA sr' st.regs :: boxA ou [sV sr', .slice none 0 0, .slice none 0 0, .slice none 0 0] :: boxA tb nil4 :: boxA mb [sV sr, sV (ss 0), sV (ss 1), sV (ss 2)] :: R) := h8
  clear_value w8
  have h9 : At W w8 (pmxL ou sr' (fun _ => ⟨none, 0, 0⟩) ⟨st.regs, fun _ => []⟩ ++ (boxA tb nil4 :: boxA mb [sV sr, sV (ss 0), sV (ss 1), sV (ss 2)] :: R)) := (h8.nil.nil.nil.front 3 rfl).front 4 rfl
  unfold trystkeep_TwinMix.l2
  refine ⟨fun t w' => ∃ (k : Nat) (tt : Nat → Sl) (s1 : MxS), t = k ∧ k ≤ 3 ∧ s1.regs = st.regs ∧ (∀ j, j < k → s1.seen j = st.seen j) ∧ At W w' (pmxL ou sr' tt s1 ++ (boxA tb nil4 :: boxA mb [sV sr, sV (ss 0), sV (ss 1), sV (ss 2)] :: R)), fun t _ => 3 - t.toNat,
    ⟨0, fun _ => ⟨none, 0, 0⟩, ⟨st.regs, fun _ => []⟩, rfl, by omega, rfl, fun j hj => absurd hj (by omega), h9⟩, ?_⟩
  clear h9
  rintro _ w16 ⟨k, tt, s1, rfl, hk, hr1, hs1, h16⟩
  unfold trystkeep_TwinMix.b2
  refine cond_d (p := ((k : Nat) : Int) < 3) (fun hlt => ?_) fun hge => ?_
  · have hk3 : k < 3 := by omega
    have hcell : w16.cell? (mb.add (1 + k)) = some (.slice (ss k).a (ss k).len (ss k).cap) := by
      have : k = 0 ∨ k = 1 ∨ k = 2 := by omega
      rcases this with rfl | rfl | rfl
      · exact h16.s.cell 6 rfl 1 rfl
      · exact h16.s.cell 6 rfl 2 rfl
      · exact h16.s.cell 6 rfl 3 rfl
    refine ⟨by omega, by omega, _, _, _, by rw [Int.toNat_natCast, add_add]; exact hcell, ?_⟩
    refine (twin_spec (s := ss k) (xs := st.seen k) (hM.seen k hk3 (pmxL ou sr' tt s1 ++ [_, _]) w16 (by rw [List.append_assoc]; exact h16)) (by have := hsl k hk3; omega)).mono ?_
    rintro _ w17 ⟨s', rfl, ho, hb⟩
    obtain ⟨wr, h18⟩ := seen_putP (h16.own ho hb) hk3
    refine ⟨_, _, _, rfl, by omega, by omega, by rw [Int.toNat_natCast]; exact wr, ?_⟩
    dsimp only
    rw [inc (by omega), Int.toNat_natCast]
    refine ⟨⟨rfl, rfl, rfl, k + 1, _, seenAt s1 k (st.seen k), rfl, by omega, hr1, fun j hj => ?_, h18⟩, by (try dsimp only); omega⟩
    show (if j = k then st.seen k else s1.seen j) = st.seen j
    split
    · rename_i e; rw [e]
    · exact hs1 j (by omega)
  · have hk3 : k = 3 := by omega
    subst hk3
    have e : pmxL ou sr' tt s1 = pmxL ou sr' tt st := pmxL_eq hr1 (fun j hj => hs1 j hj) (fun _ _ => rfl)
    rw [e] at h16
    unfold trystkeep_TwinMix.c1
    obtain ⟨wr, h19⟩ := h16.set4 5 rfl (sV sr') (sV (tt 0)) (sV (tt 1)) (sV (tt 2))
    refine ⟨_, _, _, h16.s.cell0 0 rfl rfl, _, _, _, h16.s.cell 0 rfl 1 rfl, _, _, _, h16.s.cell 0 rfl 2 rfl, _, _, _, h16.s.cell 0 rfl 3 rfl, wr, ?_⟩
    intro w19
    have h19 : At W w19 (pmxL ou sr' tt st ++ (boxA tb [sV sr', sV (tt 0), sV (tt 1), sV (tt 2)] :: boxA mb [sV sr, sV (ss 0), sV (ss 1), sV (ss 2)] :: R)) := h19
    clear_value w19
    exact ⟨_, _, _, h19.s.cell0 5 rfl rfl, _, _, _, h19.s.cell 5 rfl 1 rfl, _, _, _, h19.s.cell 5 rfl 2 rfl, _, _, _, h19.s.cell 5 rfl 3 rfl, sr', tt, rfl, ((h19.less 6 rfl).less 5 rfl).drop⟩

theorem mixeq_at (h : At W w R) {sr' : Sl} {ss' : Nat → Sl} {st' : MxS} (hM : MixRd W R sr ss st) (hM' : MixRd W R sr' ss' st') (hrl : st.regs.length ≤ 1000000) :
    CallsV Tryd.prog n_trystkeep_Mix #[mV sr ss, mV sr' ss'] w fun v w' => v = .bool (decide (mixEq st st')) ∧ At W w' R := by
  refine trystkeep_Mix.lift (a0_0 := sr) (a0_1 := ss 0) (a0_2 := ss 1) (a0_3 := ss 2) (b1_0 := sr') (b1_1 := ss' 0) (b1_2 := ss' 1) (b1_3 := ss' 2) ?_
  unfold trystkeep_Mix.main
  intro w3 w4
  have h3 : At W w3 (boxA (newA w) [sV sr, sV (ss 0), sV (ss 1), sV (ss 2)] :: R) := h.box 127 [sV sr, sV (ss 0), sV (ss 1), sV (ss 2)]
  have h4 : At W w4 (boxA (newA w3) [sV sr', sV (ss' 0), sV (ss' 1), sV (ss' 2)] :: boxA (newA w) [sV sr, sV (ss 0), sV (ss 1), sV (ss 2)] :: R) := h3.box 127 [sV sr', sV (ss' 0), sV (ss' 1), sV (ss' 2)]
  clear_value w4
  generalize newA w3 = bb at h4 ⊢
  generalize newA w = ab at h4 ⊢
  unfold trystkeep_Mix.l2
  refine ⟨fun t w' => ∃ k : Nat, t = k ∧ k ≤ 3 ∧ (∀ j, j < k → st.seen j = st'.seen j) ∧ At W w' (boxA bb [sV sr', sV (ss' 0), sV (ss' 1), sV (ss' 2)] :: boxA ab [sV sr, sV (ss 0), sV (ss 1), sV (ss 2)] :: R), fun t _ => 3 - t.toNat, ⟨0, rfl, by omega, fun j hj => absurd hj (by omega), h4⟩, ?_⟩
  clear h4 h3
  rintro _ w5 ⟨k, rfl, hk, hs, h5⟩
  unfold trystkeep_Mix.b2
  refine cond_d (p := ((k : Nat) : Int) < 3) (fun hlt => ?_) fun hge => ?_
  · have hk3 : k < 3 := by omega
    have hd := h5.drew
    have hc1 : w5.drew.cell? (ab.add (1 + k)) = some (.slice (ss k).a (ss k).len (ss k).cap) ∧ w5.drew.cell? (bb.add (1 + k)) = some (.slice (ss' k).a (ss' k).len (ss' k).cap) := by
      have : k = 0 ∨ k = 1 ∨ k = 2 := by omega
      rcases this with rfl | rfl | rfl
      · exact ⟨hd.s.cell 1 rfl 1 rfl, hd.s.cell 0 rfl 1 rfl⟩
      · exact ⟨hd.s.cell 1 rfl 2 rfl, hd.s.cell 0 rfl 2 rfl⟩
      · exact ⟨hd.s.cell 1 rfl 3 rfl, hd.s.cell 0 rfl 3 rfl⟩
    refine ⟨fun u => u = w5.drew, rfl, by omega, by omega, _, _, _, fun u hu => by rw [hu, Int.toNat_natCast, add_add]; exact hc1.1, by omega, by omega, _, _, _, fun u hu => by rw [hu, Int.toNat_natCast, add_add]; exact hc1.2, ?_⟩
    refine (ints_spec (s := ss k) (t := ss' k) (hM.seen k hk3 [_, _] _ hd) (hM'.seen k hk3 [_, _] _ hd)).mono ?_
    rintro _ w6 ⟨rfl, hsm⟩
    refine ⟨_, rfl, cond_not (fun hf => ?_) fun ht => ?_⟩
    · have hf := of_decide_eq_false hf
      exact ⟨by rw [decide_eq_false (fun hh : mixEq st st' => hf (hh.2 k hk3))], ((hd.same hsm).drop).drop⟩
    · have ht := of_decide_eq_true ht
      dsimp only
      rw [inc (by omega)]
      refine ⟨⟨rfl, rfl, k + 1, rfl, by omega, fun j hj => ?_, hd.same hsm⟩, by (try dsimp only); omega⟩
      by_cases hjk : j = k
      · rw [hjk]; exact ht
      · exact hs j (by omega)
  · have hk3 : k = 3 := by omega
    subst hk3
    unfold trystkeep_Mix.c1
    refine ⟨_, _, _, h5.s.cell0 1 rfl rfl, _, _, _, h5.s.cell0 0 rfl rfl, ?_⟩
    refine (regs_spec (s := sr) (t := sr') (hM.regs [_, _] _ h5) (hM'.regs [_, _] _ h5) hrl).mono ?_
    rintro _ w6 ⟨rfl, hsm⟩
    refine ⟨_, rfl, ?_, ((h5.same hsm).drop).drop⟩
    congr 1
    exact decide_eq_decide.2 ⟨fun hh => ⟨hh, fun j hj => hs j hj⟩, fun hh => hh.1⟩

/-- the page's round -/
theorem rround_at (h : At W w (pgT p T :: R)) (hM : MixRd W R sr ss st) (hrl : st.regs.length ≤ 10000) (hsl : ∀ k, k < 3 → (st.seen k).length ≤ 1000000) (hTl : T.length ≤ 600000) (hZ : Z.length = 3) (hin : RdIn (wordT T).1 (wordT T).2.1 secs (rowP Z) st l)
    (hsc : ∀ x ∈ secs, inT T x) (hlc : ∀ x ∈ l, inT T x) (hS : ∀ L w', At W w' (L ++ R) → Ints .i64 w' sec secs) (hL : ∀ L w', At W w' (L ++ R) → Ints .i64 w' sl l) (hP : ∀ L w', At W w' (L ++ R) → Rw w' sp Z) :
    CallsV Tryd.prog n_trystref22_Round #[.pointer (some p), mV sr ss, sV sec, sV sl, sV sp] w fun v w' => ∃ (sr' so : Sl) (ss' : Nat → Sl), v = .tuple #[mV sr' ss', sV so] ∧
      At W w' (pgT p (if l.length = 0 then T else (roundT T st secs l (rowP Z)).1) :: (mixL sr' ss' (roundT T st secs l (rowP Z)).2.1 ++ (ownA so (roundT T st secs l (rowP Z)).2.2 :: R))) := by
  refine trystref22_Round.lift (st1_0 := sr) (st1_1 := ss 0) (st1_2 := ss 1) (st1_3 := ss 2) (secrets2 := sec) (in3 := sl) (perms4 := sp) ?_
  unfold trystref22_Round.main
  intro w1 w2
  have hT : TOk T := h.pok
  have h1 : At W w1 (boxA (newA w) [sV sr, sV (ss 0), sV (ss 1), sV (ss 2)] :: pgT p T :: R) := h.box 127 [sV sr, sV (ss 0), sV (ss 1), sV (ss 2)]
  have h2 : At W w2 (boxA (newA w1) nil4 :: boxA (newA w) [sV sr, sV (ss 0), sV (ss 1), sV (ss 2)] :: pgT p T :: R) := h1.box 127 nil4
  clear_value w2
  generalize newA w1 = nb at h2 ⊢
  generalize newA w = sb at h2 ⊢
  clear h1
  refine ⟨_, _, _, h2.s.cell0 1 rfl rfl, _, _, _, h2.s.cell 1 rfl 1 rfl, _, _, _, h2.s.cell 1 rfl 2 rfl, _, _, _, h2.s.cell 1 rfl 3 rfl, ?_⟩
  refine (twinmix_at h2 (hM.up [_, _, _]) (by omega) (fun k hk => by have := hsl k hk; omega)).mono ?_
  rintro _ w3 ⟨sr1, ss1, rfl, h3⟩
  refine ⟨_, _, _, _, _, _, _, _, _, _, _, _, rfl, ?_⟩
  intro w4
  obtain ⟨wr, h5⟩ := (h3.tmp 127 (zs := nil4) (cs := [sV sr1, sV (ss1 0), sV (ss1 1), sV (ss1 2)]) rfl)
  refine ⟨wr, ?_⟩
  intro w5
  have h5 : At W w5 (pmxL (newA w3) sr1 ss1 st ++ (boxA nb nil4 :: boxA sb [sV sr, sV (ss 0), sV (ss 1), sV (ss 2)] :: pgT p T :: R)) := h5
  clear_value w5
  generalize newA w3 = y at h5 ⊢
  have h6 : At W w5 (pgT p T :: (pmxL y sr1 ss1 st ++ (boxA nb nil4 :: boxA sb [sV sr, sV (ss 0), sV (ss 1), sV (ss 2)] :: R))) := h5.front 7 rfl
  have up : ∀ {P : World → Prop}, (∀ L w', At W w' (L ++ R) → P w') → ∀ L w', At W w' (L ++ (boxA nb nil4 :: boxA sb [sV sr, sV (ss 0), sV (ss 1), sV (ss 2)] :: R)) → P w' := fun hX L w' hw => hX (L ++ [_, _]) w' (by rw [List.append_assoc]; exact hw)
  refine (rsrv_at hT hTl rfl rfl hZ hsc 2 (s := 0) (R := boxA nb nil4 :: boxA sb _ :: R) rfl hin (.inl rfl) hlc (fun k _ hk => hsl k hk) hrl h6 (up hS) (up hL) (up hP)).mono ?_
  rintro _ w7 ⟨so, sr2, ss2, rfl, h7⟩
  refine ⟨_, _, _, rfl, ?_⟩
  obtain ⟨wr4, h8⟩ := h7.set4 7 rfl (sV sr2) (sV (ss2 0)) (sV (ss2 1)) (sV (ss2 2))
  refine ⟨_, _, _, h7.s.cell0 1 rfl rfl, _, _, _, h7.s.cell 1 rfl 1 rfl, _, _, _, h7.s.cell 1 rfl 2 rfl, _, _, _, h7.s.cell 1 rfl 3 rfl, wr4, ?_⟩
  intro w8
  have h8 : At W w8 (pgT p (if l.length = 0 then T else (roundT T st secs l (rowP Z)).1) :: (pmxL y sr2 ss2 (roundT T st secs l (rowP Z)).2.1 ++ (ownA so (roundT T st secs l (rowP Z)).2.2 :: boxA nb [sV sr2, sV (ss2 0), sV (ss2 1), sV (ss2 2)] :: boxA sb [sV sr, sV (ss 0), sV (ss 1), sV (ss 2)] :: R))) := h8
  clear_value w8
  exact ⟨_, _, _, h8.s.cell0 7 rfl rfl, _, _, _, h8.s.cell 7 rfl 1 rfl, _, _, _, h8.s.cell 7 rfl 2 rfl, _, _, _, h8.s.cell 7 rfl 3 rfl, sr2, so, ss2, rfl, ((h8.less 8 rfl).less 7 rfl).less 1 rfl⟩
end

end Go.Proofs.YtoclhecldmahiaaDoor

/-
  Rows of numbers; permutations of the law and of the page.
-/
set_option linter.unusedVariables false
set_option linter.unusedSimpArgs false
namespace Go.Proofs.YtoclhecldmahiaaDoor
open Go.Lf Go.RowKit

theorem t29 : ∃ i, Tryd.prog.info? 29 = some i ∧ i.zero = some (.slice none 0 0) ∧ i.size = 1 ∧ i.bytes = 24 := ⟨Tryd.t29, by kernel_rfl, by kernel_rfl, by kernel_rfl, by kernel_rfl⟩
/-- a row of rows -/
def rowsA (s : Sl) (Z : List (Sl × List Int)) : Asn := rowA 29 1 s Z.length (Z.map fun z => sV z.1)
def rowsL (s : Sl) (Z : List (Sl × List Int)) : List Asn := rowsA s Z :: Z.map fun z => ownA z.1 z.2

section
variable {W w w' : World} {L R Y : List Asn} {sp sl : Sl} {Z : List (Sl × List Int)}

theorem rowsRd (hl : ∀ z ∈ Z, z.2.length ≤ 1000000) : ∀ L w', At W w' (L ++ (rowsL sp Z ++ R)) → Rw w' sp Z := by
  intro L w' hw
  have h := hw.dropL
  have hk : (rowsL sp Z ++ R)[0]? = some (rowA 29 1 sp Z.length (Z.map fun z => sV z.1)) := rfl
  refine ⟨(h.s.rowLen 0 hk).1, fun i z hz => ?_⟩
  have hi := (List.getElem?_eq_some_iff.1 hz).1
  obtain ⟨q, hq, hc⟩ := h.s.rowCell 0 hk (j := i) (by rw [List.length_map]; exact hi)
  refine ⟨q, hq, hc i _ (by rw [List.getElem?_map, hz]; rfl), ?_⟩
  refine rowNow (i + 1) ?_ h.s (by have := hl z (List.mem_of_getElem? hz); omega)
  show ((Z.map fun z => ownA z.1 z.2) ++ R)[i]? = _
  rw [List.getElem?_append_left (by rw [List.length_map]; exact hi), List.getElem?_map, hz]
  rfl

theorem rows_more (k : Nat) (hk : L[k]? = some (rowsA sp Z)) (h : At W w L) (t : Sl) (ys : List Int) (hl : Z.length ≤ 100000) :
    ∃ (s' : Sl) (w' : World), (builtin .append #[128, 128] 128 #[] #[.slice sp.a sp.len sp.cap, .slice (some (newA w)) 1 1]).run Tryd.prog (w.alloc (.cells #[.slice t.a t.len t.cap] 29)) = .ok (.value (.slice s'.a s'.len s'.cap)) w' ∧ At W w' (L.set k (rowsA s' (Z ++ [(t, ys)]))) := by
  obtain ⟨i, hi, hz, hsz, hby⟩ := t29
  have hb1 := below_alloc w (.cells #[.slice t.a t.len t.cap] 29)
  have h1 := h.s.keep hb1
  obtain ⟨s', w', hr, _, h2, hb2⟩ := Sep.append (t := 128) (ty := 128) (c := 1) (m := 1) Tryd.underlying128 hi hz hsz hby rfl (by omega) k hk h1 (a := newA w) (news := [sV t]) rfl
    (fun j u hu => by rw [← hu]; exact (cell_new w #[.slice t.a t.len t.cap] 29 j).trans (by simp))
    (by intro u hu; simp at hu; rw [hu]; rfl) (by unfold maxLen; omega) (by omega) (by omega)
  refine ⟨s', w', hr, h.go ?_ ((hb1.mono h.s.le).trans hb2)⟩
  unfold rowsA
  rw [List.length_append, List.map_append]
  exact h2

theorem rowsL_in {t : Sl} {ys : List Int} (h : At W w (ownA t ys :: rowsA sp (Z ++ [(t, ys)]) :: ((Z.map fun z => ownA z.1 z.2) ++ R))) : At W w (rowsL sp (Z ++ [(t, ys)]) ++ R) := by
  have h2 := h.swap.perm (List.Perm.cons _ (List.perm_middle (l₁ := Z.map fun z => ownA z.1 z.2)).symm)
  unfold rowsL
  rw [List.map_append]
  show At W w (rowsA sp (Z ++ [(t, ys)]) :: (((Z.map fun z => ownA z.1 z.2) ++ [ownA t ys]) ++ R))
  rw [List.append_assoc]
  exact h2
theorem At.rowsNil (h : At W w R) : At W w (rowsL ⟨none, 0, 0⟩ [] ++ R) := h.go (h.s.rowNil 29 1) (Below.refl _ _)

theorem twinperms_at (h : At W w R) (hP : ∀ L w', At W w' (L ++ R) → Rw w' sp Z) (hZ : Z.length ≤ 100000) (hzl : ∀ z ∈ Z, z.2.length ≤ 1000000) :
    CallsV Tryd.prog n_trystkeep_TwinPerms #[sV sp] w fun v w' => ∃ (s' : Sl) (Z' : List (Sl × List Int)), v = sV s' ∧ rowsP Z' = rowsP Z ∧ At W w' (rowsL s' Z' ++ R) := by
  refine trystkeep_TwinPerms.lift ?_
  unfold trystkeep_TwinPerms.main trystkeep_TwinPerms.l1
  refine ⟨fun t w' => ∃ (k : Nat) (Zk : List (Sl × List Int)), t.2 = k ∧ k ≤ Z.length ∧ rowsP Zk = (rowsP Z).take k ∧ At W w' (rowsL t.1 Zk ++ R), fun t _ => Z.length - t.2.toNat, ⟨0, [], rfl, Nat.zero_le _, by simp [rowsP], h.rowsNil⟩, ?_⟩
  clear h
  rintro ⟨so, _⟩ w1 ⟨k, Zk, rfl, hk, hzk, h1⟩
  show trystkeep_TwinPerms.b1 _ _ sp so (k : Int) w1
  have h1 : At W w1 (rowsL so Zk ++ R) := h1
  unfold trystkeep_TwinPerms.b1
  have hrw := hP _ w1 h1
  have hlen := hrw.len
  have hzl2 : Zk.length = k := by
    have := congrArg List.length hzk
    rw [List.length_take] at this
    simp only [rowsP, List.length_map] at this
    omega
  refine cond_d (p := ((k : Nat) : Int) < ((sp.len : Nat) : Int)) (fun hlt => ?_) fun hge => ?_
  · have hkl : k < Z.length := by omega
    obtain ⟨q, hq, hc, hI⟩ := hrw.cell k _ (List.getElem?_eq_getElem hkl)
    refine ⟨by omega, hlt, q, hq, _, _, _, by rw [Int.toNat_natCast]; exact hc, ?_⟩
    refine (twin_spec (s := Z[k].1) (xs := Z[k].2) hI (by have := hzl _ (List.getElem_mem hkl); omega)).mono ?_
    rintro _ w2 ⟨s', rfl, ho, hb⟩
    refine ⟨_, _, _, rfl, ?_⟩
    intro w3
    have h2 := h1.own ho hb
    obtain ⟨s3, w4, run, h3⟩ := rows_more 1 rfl h2 s' Z[k].2 (by omega)
    refine ⟨_, _, _, w4, run, ?_⟩
    dsimp only
    rw [inc (by omega)]
    refine ⟨⟨rfl, k + 1, Zk ++ [(s', Z[k].2)], rfl, by omega, ?_, rowsL_in h3⟩, by (try dsimp only); omega⟩
    rw [List.take_succ_eq_append_getElem (by simpa [rowsP] using hkl), ← hzk]
    simp [rowsP]
  · rw [List.take_of_length_le (by simp [rowsP]; omega)] at hzk
    exact ⟨so, Zk, rfl, hzk, h1⟩

theorem rperm_at (h : At W w R) {s : Sl} {ps : List Int} {n : Nat} (hn : n ≤ 1000000) (hI : ∀ L w', At W w' (L ++ R) → Ints .i64 w' s ps) :
    CallsV Tryd.prog n_trystref22_Perm #[.slice s.a s.len s.cap, .int .i64 (n : Int)] w fun v w' => v = .bool (decide (permOk ps n)) ∧ At W w' R := by
  refine trystref22_Perm.lift ?_
  unfold trystref22_Perm.main
  have hl := (hI [] w h).len
  have hsm := (hI [] w h).small
  have bad : ¬ permOk ps n → (Value.bool false) = .bool (decide (permOk ps n)) := fun hh => by rw [decide_eq_false hh]
  refine cond_n (fun hne => ⟨bad fun hh => by have := hh.1; omega, h⟩) fun heq => ?_
  have hpn : ps.length = n := by omega
  refine ⟨by omega, by omega, by omega, by omega, ?_⟩
  intro w2
  obtain ⟨h2s, b2⟩ := h.s.bools (n := n) (by omega)
  have h2 : At W w2 (boolA ⟨some (newA w), n, n⟩ (List.replicate n false) :: R) := h.go h2s b2
  have etk : (⟨some (newA w), ((n : Int)).toNat, ((n : Int)).toNat⟩ : Sl) = ⟨some (newA w), n, n⟩ := rfl
  rw [etk]
  generalize (⟨some (newA w), n, n⟩ : Sl) = sb at h2 ⊢
  clear_value w2
  unfold trystref22_Perm.l1
  refine ⟨fun t w' => ∃ (k : Nat) (bs : List Bool), t = k ∧ k ≤ ps.length ∧ bs.length = n ∧ (∀ x ∈ ps.take k, 0 ≤ x ∧ x < n) ∧ (ps.take k).Nodup ∧ (∀ j : Nat, j < n → bs[j]?.getD false = decide ((j : Int) ∈ ps.take k)) ∧ At W w' (boolA sb bs :: R), fun t _ => ps.length - t.toNat,
    ⟨0, List.replicate n false, rfl, Nat.zero_le _, by simp, by simp, by simp, fun j hj => by simp [hj], h2⟩, ?_⟩
  clear h2 h2s b2 h
  rintro _ w3 ⟨k, bs, rfl, hk, hbl, hr, hnd, hb, h3⟩
  unfold trystref22_Perm.b1
  have hsl : sb.len = n := by rw [(h3.s.rowLen 0 rfl).1, hbl]
  refine cond_d (p := ((k : Nat) : Int) < (n : Int)) (fun hlt => ?_) fun hge => ?_
  · have hkl : k < ps.length := by omega
    have et : ps.take (k + 1) = ps.take k ++ [ps[k]] := List.take_succ_eq_append_getElem hkl
    obtain ⟨q, hq, hc⟩ := (hI [_] w3 h3).get (i := (k : Int)) (by omega) (by omega)
    have hc0 := hc
    rw [Int.toNat_natCast, List.getElem?_eq_getElem hkl, Option.getD_some] at hc
    have hc' : w3.cell? (q.add ((k : Nat) : Int).toNat) = some (.int .i64 ps[k]) := by rw [Int.toNat_natCast]; exact hc
    refine ⟨by omega, by omega, q, hq, _, hc', cond_d (fun hneg => ?_) fun hneg => ⟨by omega, by omega, q, hq, _, hc', cond_d (fun hbig => ?_) fun hbig => ?_⟩⟩
    · exact ⟨bad fun hh => by have := hh.2.1 _ (List.getElem_mem hkl); omega, h3.drop⟩
    · exact ⟨bad fun hh => by have := hh.2.1 _ (List.getElem_mem hkl); omega, h3.drop⟩
    · have hxn : ps[k].toNat < n := by omega
      obtain ⟨qb, hqb, hcb⟩ := h3.s.boolAt 0 rfl (j := ps[k].toNat) (by omega)
      have hbx := hb ps[k].toNat hxn
      rw [show ((ps[k].toNat : Nat) : Int) = ps[k] by omega] at hbx
      rw [hbx] at hcb
      refine ⟨by omega, by omega, q, hq, _, hc', by omega, by omega, qb, hqb, _, hcb, cond_c (fun hin => ?_) fun hout => ?_⟩
      · have hin := of_decide_eq_true hin
        refine ⟨bad fun hh => ?_, h3.drop⟩
        have hnd2 : (ps.take (k + 1)).Nodup := hh.2.2.sublist (List.take_sublist _ _)
        rw [et, List.nodup_append] at hnd2
        exact hnd2.2.2 _ hin _ (by simp) rfl
      · have hout := of_decide_eq_false hout
        unfold trystref22_Perm.c2
        obtain ⟨wr, h4s, b4⟩ := h3.s.boolSet 0 rfl hqb (j := ps[k].toNat) (by omega) true
        refine ⟨by omega, by omega, q, hq, _, hc', by omega, by omega, qb, hqb, wr, ?_⟩
        dsimp only
        rw [inc (by omega)]
        refine ⟨⟨rfl, rfl, rfl, k + 1, bs.set ps[k].toNat true, rfl, by omega, by rw [List.length_set]; exact hbl, ?_, ?_, ?_, h3.go h4s b4⟩, by omega⟩
        · intro x hx
          rw [et, List.mem_append, List.mem_singleton] at hx
          rcases hx with hx | rfl
          · exact hr x hx
          · omega
        · rw [et, List.nodup_append]
          refine ⟨hnd, by simp, fun x hx y hy => ?_⟩
          rw [List.mem_singleton] at hy
          rintro rfl
          subst hy
          exact hout hx
        · intro j hj
          rw [List.getElem?_set, et]
          by_cases hjx : ps[k].toNat = j
          · rw [if_pos hjx, if_pos (by omega)]
            have : (j : Int) = ps[k] := by omega
            rw [this]
            exact (decide_eq_true (List.mem_append.2 (.inr (List.mem_singleton.2 rfl)))).symm
          · rw [if_neg hjx, hb j hj, decide_eq_decide, List.mem_append, List.mem_singleton]
            exact ⟨.inl, fun h => h.elim id fun h => absurd (by omega) hjx⟩
  · rw [List.take_of_length_le (by omega)] at hr hnd
    exact ⟨by rw [decide_eq_true (show permOk ps n from ⟨hpn, hr, hnd⟩)], h3.drop⟩

theorem umod (x : Int) {n : Nat} (h0 : 0 < n) (hn : n ≤ 1000000) : 0 ≤ IntKind.i64.wrap (Int.tmod (IntKind.u64.wrap x) (IntKind.u64.wrap (n : Int))) ∧ IntKind.i64.wrap (Int.tmod (IntKind.u64.wrap x) (IntKind.u64.wrap (n : Int))) < n ∧ IntKind.u64.wrap (n : Int) ≠ 0 := by
  have e : IntKind.u64.wrap (n : Int) = n := by rw [IntKind.wrap_u64]; omega
  have hx : 0 ≤ IntKind.u64.wrap x := by rw [IntKind.wrap_u64]; omega
  rw [e]
  have h1 := Int.tmod_nonneg (n : Int) hx
  have h2 := Int.tmod_lt_of_pos (IntKind.u64.wrap x) (show (0 : Int) < n by omega)
  rw [w64 (by omega)]
  omega

theorem permOk_of {ys : List Int} {n : Nat} (h : ys.Perm ((List.range n).map fun (i : Nat) => (i : Int))) : permOk ys n := by
  refine ⟨by rw [h.length_eq]; simp, fun x hx => ?_, ?_⟩
  · have := h.mem_iff.1 hx
    obtain ⟨i, hi, rfl⟩ := List.mem_map.1 this
    have := List.mem_range.1 hi
    omega
  · refine h.nodup_iff.2 ?_
    exact List.pairwise_map.2 (List.nodup_range.imp fun hab => by omega)

/-- a permutation that is made of any numbers -/
theorem lawperm_at (h : At W w R) {s : Sl} {xs : List Int} {n : Nat} (raw : Bool) (hn : n ≤ 1000) (hx : xs.length ≤ 1000) (hI : ∀ L w', At W w' (L ++ R) → Ints .i64 w' s xs) :
    CallsV Tryd.prog n_trystlaw24_perm #[.slice s.a s.len s.cap, .int .i64 (n : Int), .bool raw] w fun v w' => ∃ (so : Sl) (ys : List Int), v = sV so ∧ ys.length ≤ 1000 ∧ (raw = false → permOk ys n) ∧ At W w' (ownA so ys :: R) := by
  refine trystlaw24_perm.lift ?_
  unfold trystlaw24_perm.main
  have hlen := (hI [] w h).len
  refine cond_c (fun ht => ?_) fun hf => ?_
  · refine (twin_spec (s := s) (xs := xs) (hI [] w h) (by omega)).mono ?_
    rintro _ w2 ⟨s', rfl, ho, hb⟩
    exact ⟨_, _, _, rfl, s', xs, rfl, hx, fun hh => absurd (ht.symm.trans hh) (by decide), h.own ho hb⟩
  · unfold trystlaw24_perm.l4
    refine ⟨fun t w' => ∃ k : Nat, t.2 = k ∧ k ≤ n ∧ At W w' (ownA t.1 ((List.range k).map fun (i : Nat) => (i : Int)) :: R), fun t _ => n - t.2.toNat, ⟨0, rfl, Nat.zero_le _, h.nil⟩, ?_⟩
    clear h
    rintro ⟨so, _⟩ w1 ⟨k, rfl, hk, h1⟩
    show trystlaw24_perm.b4 _ _ s (n : Int) so (k : Int) w1
    have h1 : At W w1 (ownA so ((List.range k).map fun (i : Nat) => (i : Int)) :: R) := h1
    unfold trystlaw24_perm.b4
    refine cond_d (p := ((k : Nat) : Int) < (n : Int)) (fun hlt => ?_) fun hge => ?_
    · intro w3
      obtain ⟨s', w4, run, h2⟩ := more_at 0 rfl h1 (k : Int) (by simp; omega)
      refine ⟨s'.a, s'.len, s'.cap, w4, run, ?_⟩
      dsimp only
      rw [inc (by omega)]
      refine ⟨⟨rfl, rfl, k + 1, rfl, by omega, ?_⟩, by (try dsimp only); omega⟩
      rw [List.range_succ, List.map_append]
      exact h2
    · have hkn : k = n := by omega
      subst hkn
      unfold trystlaw24_perm.c3 trystlaw24_perm.l1
      refine ⟨fun t w' => ∃ (i : Nat) (ys : List Int), t = i ∧ i ≤ k ∧ ys.Perm ((List.range k).map fun (i : Nat) => (i : Int)) ∧ At W w' (ownA so ys :: R), fun t _ => k - t.toNat, ⟨0, _, rfl, Nat.zero_le _, List.Perm.refl _, h1⟩, ?_⟩
      clear h1
      rintro _ w2 ⟨i, ys, rfl, hi, hp, h2⟩
      have hyl : ys.length = k := by rw [hp.length_eq]; simp
      have done : ∃ (so' : Sl) (ys' : List Int), sV so = sV so' ∧ ys'.length ≤ 1000 ∧ (raw = false → permOk ys' k) ∧ At W w2 (ownA so' ys' :: R) := ⟨so, ys, rfl, by omega, fun _ => permOk_of hp, h2⟩
      unfold trystlaw24_perm.b1
      refine cond_d (p := ((i : Nat) : Int) < (k : Int)) (fun hlt => cond_d (p := ((i : Nat) : Int) < ((s.len : Nat) : Int)) (fun hlt2 => ?_) fun _ => done) fun _ => done
      unfold trystlaw24_perm.c2
      obtain ⟨q, hq, hc⟩ := (hI [_] w2 h2).get (i := (i : Int)) (by omega) (by omega)
      obtain ⟨u1, u2, u3⟩ := umod (xs[((i : Nat) : Int).toNat]?.getD 0) (n := k) (by omega) (by omega)
      refine ⟨by omega, hlt2, q, hq, _, hc, u3, ?_⟩
      dsimp only
      generalize IntKind.i64.wrap (Int.tmod (IntKind.u64.wrap (xs[((i : Nat) : Int).toNat]?.getD 0)) (IntKind.u64.wrap (k : Int))) = m at u1 u2 ⊢
      have hd := h2.drew
      have hsl := hd.numLen 0 rfl
      obtain ⟨qo, hqo, ci⟩ := hd.num 0 rfl (i := i) (by omega)
      obtain ⟨qo', hqo', cm⟩ := hd.num 0 rfl (i := m.toNat) (by omega)
      rw [hqo] at hqo'
      obtain rfl := Option.some.inj hqo'
      obtain ⟨wr1, h3⟩ := hd.setNum 0 rfl hqo (j := i) (by omega) (ys[m.toNat]'(by omega))
      have h3 : At W _ (ownA so (ys.set i (ys[m.toNat]'(by omega))) :: R) := h3
      obtain ⟨wr2, h4⟩ := h3.setNum 0 rfl hqo (j := m.toNat) (by rw [List.length_set]; omega) (ys[i]'(by omega))
      refine ⟨fun u => u = w2.drew, rfl, u1, by omega, qo, hqo, _, fun u hu => by rw [hu]; exact cm, by omega, by omega, qo, hqo, _, fun u hu => by rw [hu, Int.toNat_natCast]; exact ci, by omega, by omega, qo, hqo, by rw [Int.toNat_natCast]; exact wr1, ?_⟩
      rw [Int.toNat_natCast]
      refine ⟨u1, by omega, qo, hqo, wr2, ?_⟩
      rw [inc (by omega)]
      exact ⟨⟨rfl, rfl, rfl, i + 1, _, rfl, by omega, (List.set_set_perm (by omega) (by omega)).trans hp, h4⟩, by (try dsimp only); omega⟩
end

end Go.Proofs.YtoclhecldmahiaaDoor
