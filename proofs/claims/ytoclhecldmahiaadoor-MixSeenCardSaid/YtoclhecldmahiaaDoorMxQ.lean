/-
  Rounds of servers: twins, comparisons, rows of numbers; the page's Round.
-/
import Derived.Test.YtoclhecldmahiaaDoorMxO
import Derived.Test.YtoclhecldmahiaaDoorM3Fns
set_option linter.unusedVariables false
set_option linter.unusedVariables false
set_option linter.unusedSimpArgs false
namespace Go.Proofs.YtoclhecldmahiaaDoor
open Go.Lf Go.RowKit

def mixEq (a b : MxS) : Prop := a.regs = b.regs ∧ ∀ k, k < 3 → a.seen k = b.seen k
instance (a b : MxS) : Decidable (mixEq a b) := by
  have : Decidable (∀ k, k < 3 → a.seen k = b.seen k) := Nat.decidableBallLT 3 (fun k _ => a.seen k = b.seen k)
  exact instDecidableAnd

/-- what a mix reads as -/
structure MixRd (W : World) (R : List Asn) (sr : Sl) (ss : Nat → Sl) (st : MxS) : Prop where
  regs : ∀ L w', At W w' (L ++ R) → Regs w' sr st.regs
  seen : ∀ k, k < 3 → ∀ L w', At W w' (L ++ R) → Ints .i64 w' (ss k) (st.seen k)
theorem MixRd.up {W : World} {R : List Asn} {sr : Sl} {ss : Nat → Sl} {st : MxS} (h : MixRd W R sr ss st) (K : List Asn) : MixRd W (K ++ R) sr ss st :=
  ⟨fun L w' hw => h.regs (L ++ K) w' (by rw [List.append_assoc]; exact hw), fun k hk L w' hw => h.seen k hk (L ++ K) w' (by rw [List.append_assoc]; exact hw)⟩
theorem MixRd.of {W : World} {R : List Asn} {sr : Sl} {ss : Nat → Sl} {st : MxS} (hl : ∀ k, k < 3 → (st.seen k).length ≤ 100000000) : MixRd W (mixL sr ss st ++ R) sr ss st :=
  ⟨fun L w' hw => regNow 0 rfl hw.dropL.s, fun k hk L w' hw => by
    have hk2 := hl k hk
    have : k = 0 ∨ k = 1 ∨ k = 2 := by omega
    rcases this with rfl | rfl | rfl
    · exact rowNow 1 rfl hw.dropL.s (by omega)
    · exact rowNow 2 rfl hw.dropL.s (by omega)
    · exact rowNow 3 rfl hw.dropL.s (by omega)⟩

section
variable {W w w' : World} {L R Y : List Asn} {y p : Addr} {T T1 : List Tm} {nw : Int} {sec sp sr sl : Sl} {ss : Nat → Sl} {st : MxS} {Z : List (Sl × List Int)} {secs l : List Int}

theorem seen_putP {s : Nat} {s' : Sl} {ys : List Int} (h : At W w (ownA s' ys :: (pmxL y sr ss st ++ Y))) (hs : s < 3) : Wr w ((y.add 1).add s) ∧
    At W (w.setCell ((y.add 1).add s) (.slice s'.a s'.len s'.cap)) (pmxL y sr (fun j => if j = s then s' else ss j) (seenAt st s ys) ++ Y) := by
  rw [add_add]
  have h0 : At W w (ownA s' ys :: boxA y [sV sr, sV (ss 0), sV (ss 1), sV (ss 2)] :: regA sr st.regs :: ownA (ss 0) (st.seen 0) :: ownA (ss 1) (st.seen 1) :: ownA (ss 2) (st.seen 2) :: Y) := h
  have : s = 0 ∨ s = 1 ∨ s = 2 := by omega
  rcases this with rfl | rfl | rfl
  · obtain ⟨wr, h1⟩ := h0.poke 1 rfl (j := 1) (by simp) (sV s')
    have h2 : At W (w.setCell (y.add 1) (sV s')) (ownA s' ys :: boxA y [sV sr, sV s', sV (ss 1), sV (ss 2)] :: regA sr st.regs :: ownA (ss 1) (st.seen 1) :: ownA (ss 2) (st.seen 2) :: Y) := h1.less 3 rfl
    exact ⟨wr, h2.perm (permK (K := [_]) (S := [_]))⟩
  · obtain ⟨wr, h1⟩ := h0.poke 1 rfl (j := 2) (by simp) (sV s')
    have h2 : At W (w.setCell (y.add 2) (sV s')) (ownA s' ys :: boxA y [sV sr, sV (ss 0), sV s', sV (ss 2)] :: regA sr st.regs :: ownA (ss 0) (st.seen 0) :: ownA (ss 2) (st.seen 2) :: Y) := h1.less 4 rfl
    exact ⟨wr, h2.perm (permK (K := [_]) (S := [_, _]))⟩
  · obtain ⟨wr, h1⟩ := h0.poke 1 rfl (j := 3) (by simp) (sV s')
    have h2 : At W (w.setCell (y.add 3) (sV s')) (ownA s' ys :: boxA y [sV sr, sV (ss 0), sV (ss 1), sV s'] :: regA sr st.regs :: ownA (ss 0) (st.seen 0) :: ownA (ss 1) (st.seen 1) :: Y) := h1.less 5 rfl
    exact ⟨wr, h2.perm (permK (K := [_]) (S := [_, _, _]))⟩

theorem mixeq_at (h : At W w R) {sr' : Sl} {ss' : Nat → Sl} {st' : MxS} (hM : MixRd W R sr ss st) (hM' : MixRd W R sr' ss' st') (hrl : st.regs.length ≤ 1000000) :
    CallsV Tryd.prog n_trystkeep_Mix #[mV sr ss, mV sr' ss'] w fun v w' => v = .bool (decide (mixEq st st')) ∧ At W w' R := by
  refine trystkeep_Mix.lift (a0_0 := sr) (a0_1 := ss 0) (a0_2 := ss 1) (a0_3 := ss 2) (b1_0 := sr') (b1_1 := ss' 0) (b1_2 := ss' 1) (b1_3 := ss' 2) ?_
  unfold trystkeep_Mix.main
  intro w3 w4
  have h3 : At W w3 (boxA (newA w) [sV sr, sV (ss 0), sV (ss 1), sV (ss 2)] :: R) := h.box 127 [sV sr, sV (ss 0), sV (ss 1), sV (ss 2)]
  have h4 : At W w4 (boxA (newA w3) [sV sr', sV (ss' 0), sV (ss' 1), sV (ss' 2)] :: boxA (newA w) [sV sr, sV (ss 0), sV (ss 1), sV (ss 2)] :: R) := h3.box 127 [sV sr', sV (ss' 0), sV (ss' 1), sV (ss' 2)]
  clear_value w4
  generalize newA w3 = bb at h4 ⊢
  generalize newA w = ab at h4 ⊢
  unfold trystkeep_Mix.l2
  refine ⟨fun t w' => ∃ k : Nat, t = k ∧ k ≤ 3 ∧ (∀ j, j < k → st.seen j = st'.seen j) ∧ At W w' (boxA bb [sV sr', sV (ss' 0), sV (ss' 1), sV (ss' 2)] :: boxA ab [sV sr, sV (ss 0), sV (ss 1), sV (ss 2)] :: R), fun t _ => 3 - t.toNat, ⟨0, rfl, by omega, fun j hj => absurd hj (by omega), h4⟩, ?_⟩
  clear h4 h3
  rintro _ w5 ⟨k, rfl, hk, hs, h5⟩
  unfold trystkeep_Mix.b2
  refine cond_d (p := ((k : Nat) : Int) < 3) (fun hlt => ?_) fun hge => ?_
  · have hk3 : k < 3 := by omega
    have hd := h5.drew
    have hc1 : w5.drew.cell? (ab.add (1 + k)) = some (.slice (ss k).a (ss k).len (ss k).cap) ∧ w5.drew.cell? (bb.add (1 + k)) = some (.slice (ss' k).a (ss' k).len (ss' k).cap) := by
      have : k = 0 ∨ k = 1 ∨ k = 2 := by omega
      rcases this with rfl | rfl | rfl
      · exact ⟨hd.s.cell 1 rfl 1 rfl, hd.s.cell 0 rfl 1 rfl⟩
      · exact ⟨hd.s.cell 1 rfl 2 rfl, hd.s.cell 0 rfl 2 rfl⟩
      · exact ⟨hd.s.cell 1 rfl 3 rfl, hd.s.cell 0 rfl 3 rfl⟩
    refine ⟨fun u => u = w5.drew, rfl, by omega, by omega, _, _, _, fun u hu => by rw [hu, Int.toNat_natCast, add_add]; exact hc1.1, by omega, by omega, _, _, _, fun u hu => by rw [hu, Int.toNat_natCast, add_add]; exact hc1.2, ?_⟩
    refine (ints_spec (s := ss k) (t := ss' k) (hM.seen k hk3 [_, _] _ hd) (hM'.seen k hk3 [_, _] _ hd)).mono ?_
    rintro _ w6 ⟨rfl, hsm⟩
    refine ⟨_, rfl, cond_not (fun hf => ?_) fun ht => ?_⟩
    · have hf := of_decide_eq_false hf
      exact ⟨by rw [decide_eq_false (fun hh : mixEq st st' => hf (hh.2 k hk3))], ((hd.same hsm).drop).drop⟩
    · have ht := of_decide_eq_true ht
      dsimp only
      rw [inc (by omega)]
      refine ⟨⟨rfl, rfl, k + 1, rfl, by omega, fun j hj => ?_, hd.same hsm⟩, by (try dsimp only); omega⟩
      by_cases hjk : j = k
      · rw [hjk]; exact ht
      · exact hs j (by omega)
  · have hk3 : k = 3 := by omega
    subst hk3
    unfold trystkeep_Mix.c1
    refine ⟨_, _, _, h5.s.cell0 1 rfl rfl, _, _, _, h5.s.cell0 0 rfl rfl, ?_⟩
    refine (regs_spec (s := sr) (t := sr') (hM.regs [_, _] _ h5) (hM'.regs [_, _] _ h5) hrl).mono ?_
    rintro _ w6 ⟨rfl, hsm⟩
    refine ⟨_, rfl, ?_, ((h5.same hsm).drop).drop⟩
    congr 1
    exact decide_eq_decide.2 ⟨fun hh => ⟨hh, fun j hj => hs j hj⟩, fun hh => hh.1⟩

end

end Go.Proofs.YtoclhecldmahiaaDoor

/-
  Rows of numbers; permutations of the law and of the page.
-/
set_option linter.unusedVariables false
set_option linter.unusedSimpArgs false
namespace Go.Proofs.YtoclhecldmahiaaDoor
open Go.Lf Go.RowKit

theorem t29 : ∃ i, Tryd.prog.info? 29 = some i ∧ i.zero = some (.slice none 0 0) ∧ i.size = 1 ∧ i.bytes = 24 := ⟨Tryd.t29, by kernel_rfl, by kernel_rfl, by kernel_rfl, by kernel_rfl⟩
/-- a row of rows -/
def rowsA (s : Sl) (Z : List (Sl × List Int)) : Asn := rowA 29 1 s Z.length (Z.map fun z => sV z.1)
def rowsL (s : Sl) (Z : List (Sl × List Int)) : List Asn := rowsA s Z :: Z.map fun z => ownA z.1 z.2

section
variable {W w w' : World} {L R Y : List Asn} {sp sl : Sl} {Z : List (Sl × List Int)}

theorem rowsRd (hl : ∀ z ∈ Z, z.2.length ≤ 1000000) : ∀ L w', At W w' (L ++ (rowsL sp Z ++ R)) → Rw w' sp Z := by
  intro L w' hw
  have h := hw.dropL
  have hk : (rowsL sp Z ++ R)[0]? = some (rowA 29 1 sp Z.length (Z.map fun z => sV z.1)) := rfl
  refine ⟨(h.s.rowLen 0 hk).1, fun i z hz => ?_⟩
  have hi := (List.getElem?_eq_some_iff.1 hz).1
  obtain ⟨q, hq, hc⟩ := h.s.rowCell 0 hk (j := i) (by rw [List.length_map]; exact hi)
  refine ⟨q, hq, hc i _ (by rw [List.getElem?_map, hz]; rfl), ?_⟩
  refine rowNow (i + 1) ?_ h.s (by have := hl z (List.mem_of_getElem? hz); omega)
  show ((Z.map fun z => ownA z.1 z.2) ++ R)[i]? = _
  rw [List.getElem?_append_left (by rw [List.length_map]; exact hi), List.getElem?_map, hz]
  rfl

theorem rows_more (k : Nat) (hk : L[k]? = some (rowsA sp Z)) (h : At W w L) (t : Sl) (ys : List Int) (hl : Z.length ≤ 100000) :
    ∃ (s' : Sl) (w' : World), (builtin .append #[128, 128] 128 #[] #[.slice sp.a sp.len sp.cap, .slice (some (newA w)) 1 1]).run Tryd.prog (w.alloc (.cells #[.slice t.a t.len t.cap] 29)) = .ok (.value (.slice s'.a s'.len s'.cap)) w' ∧ At W w' (L.set k (rowsA s' (Z ++ [(t, ys)]))) := by
  obtain ⟨i, hi, hz, hsz, hby⟩ := t29
  have hb1 := below_alloc w (.cells #[.slice t.a t.len t.cap] 29)
  have h1 := h.s.keep hb1
  obtain ⟨s', w', hr, _, h2, hb2⟩ := Sep.append (t := 128) (ty := 128) (c := 1) (m := 1) Tryd.underlying128 hi hz hsz hby rfl (by omega) k hk h1 (a := newA w) (news := [sV t]) rfl
    (fun j u hu => by rw [← hu]; exact (cell_new w #[.slice t.a t.len t.cap] 29 j).trans (by simp))
    (by intro u hu; simp at hu; rw [hu]; rfl) (by unfold maxLen; omega) (by omega) (by omega)
  refine ⟨s', w', hr, h.go ?_ ((hb1.mono h.s.le).trans hb2)⟩
  unfold rowsA
  rw [List.length_append, List.map_append]
  exact h2

theorem At.rowsNil (h : At W w R) : At W w (rowsL ⟨none, 0, 0⟩ [] ++ R) := h.go (h.s.rowNil 29 1) (Below.refl _ _)

theorem umod (x : Int) {n : Nat} (h0 : 0 < n) (hn : n ≤ 1000000) : 0 ≤ IntKind.i64.wrap (Int.tmod (IntKind.u64.wrap x) (IntKind.u64.wrap (n : Int))) ∧ IntKind.i64.wrap (Int.tmod (IntKind.u64.wrap x) (IntKind.u64.wrap (n : Int))) < n ∧ IntKind.u64.wrap (n : Int) ≠ 0 := by
  have e : IntKind.u64.wrap (n : Int) = n := by rw [IntKind.wrap_u64]; omega
  have hx : 0 ≤ IntKind.u64.wrap x := by rw [IntKind.wrap_u64]; omega
  rw [e]
  have h1 := Int.tmod_nonneg (n : Int) hx
  have h2 := Int.tmod_lt_of_pos (IntKind.u64.wrap x) (show (0 : Int) < n by omega)
  rw [w64 (by omega)]
  omega

theorem permOk_of {ys : List Int} {n : Nat} (h : ys.Perm ((List.range n).map fun (i : Nat) => (i : Int))) : permOk ys n := by
  refine ⟨by rw [h.length_eq]; simp, fun x hx => ?_, ?_⟩
  · have := h.mem_iff.1 hx
    obtain ⟨i, hi, rfl⟩ := List.mem_map.1 this
    have := List.mem_range.1 hi
    omega
  · refine h.nodup_iff.2 ?_
    exact List.pairwise_map.2 (List.nodup_range.imp fun hab => by omega)

end

end Go.Proofs.YtoclhecldmahiaaDoor
