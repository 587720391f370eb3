/-
  Rounds of servers: twins, comparisons, rows of numbers; the page's Round.
-/
import Derived.Test.YtoclhecldmahiaaDoorMxO
import Derived.Test.YtoclhecldmahiaaDoorM3Fns
set_option linter.unusedVariables false
set_option linter.unusedVariables false
set_option linter.unusedSimpArgs false
namespace Go.Proofs.YtoclhecldmahiaaDoor
open Go.Lf Go.RowKit

abbrev nil4 : List Value := [.slice none 0 0, .slice none 0 0, .slice none 0 0, .slice none 0 0]
def mixEq (a b : MxS) : Prop := a.regs = b.regs ∧ ∀ k, k < 3 → a.seen k = b.seen k
instance (a b : MxS) : Decidable (mixEq a b) := by
  have : Decidable (∀ k, k < 3 → a.seen k = b.seen k) := Nat.decidableBallLT 3 (fun k _ => a.seen k = b.seen k)
  exact instDecidableAnd

/-- what a mix reads as -/
structure MixRd (W : World) (R : List Asn) (sr : Sl) (ss : Nat → Sl) (st : MxS) : Prop where
  regs : ∀ L w', At W w' (L ++ R) → Regs w' sr st.regs
  seen : ∀ k, k < 3 → ∀ L w', At W w' (L ++ R) → Ints .i64 w' (ss k) (st.seen k)
theorem MixRd.up {W : World} {R : List Asn} {sr : Sl} {ss : Nat → Sl} {st : MxS} (h : MixRd W R sr ss st) (K : List Asn) : MixRd W (K ++ R) sr ss st :=
  ⟨fun L w' hw => h.regs (L ++ K) w' (by rw [List.append_assoc]; exact hw), fun k hk L w' hw => h.seen k hk (L ++ K) w' (by rw [List.append_assoc]; exact hw)⟩
theorem MixRd.of {W : World} {R : List Asn} {sr : Sl} {ss : Nat → Sl} {st : MxS} (hl : ∀ k, k < 3 → (st.seen k).length ≤ 100000000) : MixRd W (mixL sr ss st ++ R) sr ss st :=
  ⟨fun L w' hw => regNow 0 rfl hw.dropL.s, fun k hk L w' hw => by
    have hk2 := hl k hk
    have : k = 0 ∨ k = 1 ∨ k = 2 := by omega
    rcases this with rfl | rfl | rfl
    · exact rowNow 1 rfl hw.dropL.s (by omega)
    · exact rowNow 2 rfl hw.dropL.s (by omega)
    · exact rowNow 3 rfl hw.dropL.s (by omega)⟩

section
variable {W w w' : World} {L R Y : List Asn} {y p : Addr} {T T1 : List Tm} {nw : Int} {sec sp sr sl : Sl} {ss : Nat → Sl} {st : MxS} {Z : List (Sl × List Int)} {secs l : List Int}

theorem seen_putP {s : Nat} {s' : Sl} {ys : List Int} (h : At W w (ownA s' ys :: (pmxL y sr ss st ++ Y))) (hs : s < 3) : Wr w ((y.add 1).add s) ∧
    At W (w.setCell ((y.add 1).add s) (.slice s'.a s'.len s'.cap)) (pmxL y sr (fun j => if j = s then s' else ss j) (seenAt st s ys) ++ Y) := by
  rw [add_add]
  have h0 : At W w (ownA s' ys :: boxA y [sV sr, sV (ss 0), sV (ss 1), sV (ss 2)] :: regA sr st.regs :: ownA (ss 0) (st.seen 0) :: ownA (ss 1) (st.seen 1) :: ownA (ss 2) (st.seen 2) :: Y) := h
  have : s = 0 ∨ s = 1 ∨ s = 2 := by omega
  rcases this with rfl | rfl | rfl
  · obtain ⟨wr, h1⟩ := h0.poke 1 rfl (j := 1) (by simp) (sV s')
    have h2 : At W (w.setCell (y.add 1) (sV s')) (ownA s' ys :: boxA y [sV sr, sV s', sV (ss 1), sV (ss 2)] :: regA sr st.regs :: ownA (ss 1) (st.seen 1) :: ownA (ss 2) (st.seen 2) :: Y) := h1.less 3 rfl
    exact ⟨wr, h2.perm (permK (K := [_]) (S := [_]))⟩
  · obtain ⟨wr, h1⟩ := h0.poke 1 rfl (j := 2) (by simp) (sV s')
    have h2 : At W (w.setCell (y.add 2) (sV s')) (ownA s' ys :: boxA y [sV sr, sV (ss 0), sV s', sV (ss 2)] :: regA sr st.regs :: ownA (ss 0) (st.seen 0) :: ownA (ss 2) (st.seen 2) :: Y) := h1.less 4 rfl
    exact ⟨wr, h2.perm (permK (K := [_]) (S := [_, _]))⟩
  · obtain ⟨wr, h1⟩ := h0.poke 1 rfl (j := 3) (by simp) (sV s')
    have h2 : At W (w.setCell (y.add 3) (sV s')) (ownA s' ys :: boxA y [sV sr, sV (ss 0), sV (ss 1), sV s'] :: regA sr st.regs :: ownA (ss 0) (st.seen 0) :: ownA (ss 1) (st.seen 1) :: Y) := h1.less 5 rfl
    exact ⟨wr, h2.perm (permK (K := [_]) (S := [_, _, _]))⟩

end

end Go.Proofs.YtoclhecldmahiaaDoor

/-
  Rows of numbers; permutations of the law and of the page.
-/
set_option linter.unusedVariables false
set_option linter.unusedSimpArgs false
namespace Go.Proofs.YtoclhecldmahiaaDoor
open Go.Lf Go.RowKit

theorem t29 : ∃ i, Tryd.prog.info? 29 = some i ∧ i.zero = some (.slice none 0 0) ∧ i.size = 1 ∧ i.bytes = 24 := ⟨Tryd.t29, by kernel_rfl, by kernel_rfl, by kernel_rfl, by kernel_rfl⟩
/-- a row of rows -/
def rowsA (s : Sl) (Z : List (Sl × List Int)) : Asn := rowA 29 1 s Z.length (Z.map fun z => sV z.1)
def rowsL (s : Sl) (Z : List (Sl × List Int)) : List Asn := rowsA s Z :: Z.map fun z => ownA z.1 z.2

section
variable {W w w' : World} {L R Y : List Asn} {sp sl : Sl} {Z : List (Sl × List Int)}

theorem rowsRd (hl : ∀ z ∈ Z, z.2.length ≤ 1000000) : ∀ L w', At W w' (L ++ (rowsL sp Z ++ R)) → Rw w' sp Z := by
  intro L w' hw
  have h := hw.dropL
  have hk : (rowsL sp Z ++ R)[0]? = some (rowA 29 1 sp Z.length (Z.map fun z => sV z.1)) := rfl
  refine ⟨(h.s.rowLen 0 hk).1, fun i z hz => ?_⟩
  have hi := (List.getElem?_eq_some_iff.1 hz).1
  obtain ⟨q, hq, hc⟩ := h.s.rowCell 0 hk (j := i) (by rw [List.length_map]; exact hi)
  refine ⟨q, hq, hc i _ (by rw [List.getElem?_map, hz]; rfl), ?_⟩
  refine rowNow (i + 1) ?_ h.s (by have := hl z (List.mem_of_getElem? hz); omega)
  show ((Z.map fun z => ownA z.1 z.2) ++ R)[i]? = _
  rw [List.getElem?_append_left (by rw [List.length_map]; exact hi), List.getElem?_map, hz]
  rfl

theorem rows_more (k : Nat) (hk : L[k]? = some (rowsA sp Z)) (h : At W w L) (t : Sl) (ys : List Int) (hl : Z.length ≤ 100000) :
    ∃ (s' : Sl) (w' : World), (builtin .append #[128, 128] 128 #[] #[.slice sp.a sp.len sp.cap, .slice (some (newA w)) 1 1]).run Tryd.prog (w.alloc (.cells #[.slice t.a t.len t.cap] 29)) = .ok (.value (.slice s'.a s'.len s'.cap)) w' ∧ At W w' (L.set k (rowsA s' (Z ++ [(t, ys)]))) := by
  obtain ⟨i, hi, hz, hsz, hby⟩ := t29
  have hb1 := below_alloc w (.cells #[.slice t.a t.len t.cap] 29)
  have h1 := h.s.keep hb1
  obtain ⟨s', w', hr, _, h2, hb2⟩ := Sep.append (t := 128) (ty := 128) (c := 1) (m := 1) Tryd.underlying128 hi hz hsz hby rfl (by omega) k hk h1 (a := newA w) (news := [sV t]) rfl
    (fun j u hu => by rw [← hu]; exact (cell_new w #[.slice t.a t.len t.cap] 29 j).trans (by simp))
    (by intro u hu; simp at hu; rw [hu]; rfl) (by unfold maxLen; omega) (by omega) (by omega)
  refine ⟨s', w', hr, h.go ?_ ((hb1.mono h.s.le).trans hb2)⟩
  unfold rowsA
  rw [List.length_append, List.map_append]
  exact h2

theorem At.rowsNil (h : At W w R) : At W w (rowsL ⟨none, 0, 0⟩ [] ++ R) := h.go (h.s.rowNil 29 1) (Below.refl _ _)

theorem umod (x : Int) {n : Nat} (h0 : 0 < n) (hn : n ≤ 1000000) : 0 ≤ IntKind.i64.wrap (Int.tmod (IntKind.u64.wrap x) (IntKind.u64.wrap (n : Int))) ∧ IntKind.i64.wrap (Int.tmod (IntKind.u64.wrap x) (IntKind.u64.wrap (n : Int))) < n ∧ IntKind.u64.wrap (n : Int) ≠ 0 := by
  have e : IntKind.u64.wrap (n : Int) = n := by rw [IntKind.wrap_u64]; omega
  have hx : 0 ≤ IntKind.u64.wrap x := by rw [IntKind.wrap_u64]; omega
  rw [e]
  have h1 := Int.tmod_nonneg (n : Int) hx
  have h2 := Int.tmod_lt_of_pos (IntKind.u64.wrap x) (show (0 : Int) < n by omega)
  rw [w64 (by omega)]
  omega

theorem permOk_of {ys : List Int} {n : Nat} (h : ys.Perm ((List.range n).map fun (i : Nat) => (i : Int))) : permOk ys n := by
  refine ⟨by rw [h.length_eq]; simp, fun x hx => ?_, ?_⟩
  · have := h.mem_iff.1 hx
    obtain ⟨i, hi, rfl⟩ := List.mem_map.1 this
    have := List.mem_range.1 hi
    omega
  · refine h.nodup_iff.2 ?_
    exact List.pairwise_map.2 (List.nodup_range.imp fun hab => by omega)

/-- a permutation that is made of any numbers -/
theorem lawperm_at (h : At W w R) {s : Sl} {xs : List Int} {n : Nat} (raw : Bool) (hn : n ≤ 1000) (hx : xs.length ≤ 1000) (hI : ∀ L w', At W w' (L ++ R) → Ints .i64 w' s xs) :
    CallsV Tryd.prog n_trystlaw24_perm #[.slice s.a s.len s.cap, .int .i64 (n : Int), .bool raw] w fun v w' => ∃ (so : Sl) (ys : List Int), v = sV so ∧ ys.length ≤ 1000 ∧ (raw = false → permOk ys n) ∧ At W w' (ownA so ys :: R) := by
  refine trystlaw24_perm.lift ?_
  unfold trystlaw24_perm.main
  have hlen := (hI [] w h).len
  refine cond_c (fun ht => ?_) fun hf => ?_
  · refine (twin_spec (s := s) (xs := xs) (hI [] w h) (by omega)).mono ?_
    rintro _ w2 ⟨s', rfl, ho, hb⟩
    exact ⟨_, _, _, rfl, s', xs, rfl, hx, fun hh => absurd (ht.symm.trans hh) (by decide), h.own ho hb⟩
  · unfold trystlaw24_perm.l4
    refine ⟨fun t w' => ∃ k : Nat, t.2 = k ∧ k ≤ n ∧ At W w' (ownA t.1 ((List.range k).map fun (i : Nat) => (i : Int)) :: R), fun t _ => n - t.2.toNat, ⟨0, rfl, Nat.zero_le _, h.nil⟩, ?_⟩
    clear h
    rintro ⟨so, _⟩ w1 ⟨k, rfl, hk, h1⟩
    show trystlaw24_perm.b4 _ _ s (n : Int) so (k : Int) w1
    have h1 : At W w1 (ownA so ((List.range k).map fun (i : Nat) => (i : Int)) :: R) := h1
    unfold trystlaw24_perm.b4
    refine cond_d (p := ((k : Nat) : Int) < (n : Int)) (fun hlt => ?_) fun hge => ?_
    · intro w3
      obtain ⟨s', w4, run, h2⟩ := more_at 0 rfl h1 (k : Int) (by simp; omega)
      refine ⟨s'.a, s'.len, s'.cap, w4, run, ?_⟩
      dsimp only
      rw [inc (by omega)]
      refine ⟨⟨rfl, rfl, k + 1, rfl, by omega, ?_⟩, by (try dsimp only); omega⟩
      rw [List.range_succ, List.map_append]
      exact h2
    · have hkn : k = n := by omega
      subst hkn
      unfold trystlaw24_perm.c3 trystlaw24_perm.l1
      refine ⟨fun t w' => ∃ (i : Nat) (ys : List Int), t = i ∧ i ≤ k ∧ ys.Perm ((List.range k).map fun (i : Nat) => (i : Int)) ∧ At W w' (ownA so ys :: R), fun t _ => k - t.toNat, ⟨0, _, rfl, Nat.zero_le _, List.Perm.refl _, h1⟩, ?_⟩
      clear h1
      rintro _ w2 ⟨i, ys, rfl, hi, hp, h2⟩
      have hyl : ys.length = k := by rw [hp.length_eq]; simp
      have done : ∃ (so' : Sl) (ys' : List Int), sV so = sV so' ∧ ys'.length ≤ 1000 ∧ (raw = false → permOk ys' k) ∧ At W w2 (ownA so' ys' :: R) := ⟨so, ys, rfl, by omega, fun _ => permOk_of hp, h2⟩
      unfold trystlaw24_perm.b1
      refine cond_d (p := ((i : Nat) : Int) < (k : Int)) (fun hlt => cond_d (p := ((i : Nat) : Int) < ((s.len : Nat) : Int)) (fun hlt2 => ?_) fun _ => done) fun _ => done
      unfold trystlaw24_perm.c2
      obtain ⟨q, hq, hc⟩ := (hI [_] w2 h2).get (i := (i : Int)) (by omega) (by omega)
      obtain ⟨u1, u2, u3⟩ := umod (xs[((i : Nat) : Int).toNat]?.getD 0) (n := k) (by omega) (by omega)
      refine ⟨by omega, hlt2, q, hq, _, hc, u3, ?_⟩
      dsimp only
      generalize IntKind.i64.wrap (Int.tmod (IntKind.u64.wrap (xs[((i : Nat) : Int).toNat]?.getD 0)) (IntKind.u64.wrap (k : Int))) = m at u1 u2 ⊢
      have hd := h2.drew
      have hsl := hd.numLen 0 rfl
      obtain ⟨qo, hqo, ci⟩ := hd.num 0 rfl (i := i) (by omega)
      obtain ⟨qo', hqo', cm⟩ := hd.num 0 rfl (i := m.toNat) (by omega)
      rw [hqo] at hqo'
      obtain rfl := Option.some.inj hqo'
      obtain ⟨wr1, h3⟩ := hd.setNum 0 rfl hqo (j := i) (by omega) (ys[m.toNat]'(by omega))
      have h3 : At W _ (ownA so (ys.set i (ys[m.toNat]'(by omega))) :: R) := h3
      obtain ⟨wr2, h4⟩ := h3.setNum 0 rfl hqo (j := m.toNat) (by rw [List.length_set]; omega) (ys[i]'(by omega))
      refine ⟨fun u => u = w2.drew, rfl, u1, by omega, qo, hqo, _, fun u hu => by rw [hu]; exact cm, by omega, by omega, qo, hqo, _, fun u hu => by rw [hu, Int.toNat_natCast]; exact ci, by omega, by omega, qo, hqo, by rw [Int.toNat_natCast]; exact wr1, ?_⟩
      rw [Int.toNat_natCast]
      refine ⟨u1, by omega, qo, hqo, wr2, ?_⟩
      rw [inc (by omega)]
      exact ⟨⟨rfl, rfl, rfl, i + 1, _, rfl, by omega, (List.set_set_perm (by omega) (by omega)).trans hp, h4⟩, by (try dsimp only); omega⟩
end

end Go.Proofs.YtoclhecldmahiaaDoor
