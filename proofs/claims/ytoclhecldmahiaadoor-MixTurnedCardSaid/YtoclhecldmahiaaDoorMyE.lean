/-
  Rounds in which one onion comes, once; nothing else is one.
-/
import Derived.Test.YtoclhecldmahiaaDoorMyA
import Derived.Test.YtoclhecldmahiaaDoorMxS
set_option linter.unusedVariables false
set_option linter.unusedVariables false
set_option linter.unusedSimpArgs false
namespace Go.Proofs.YtoclhecldmahiaaDoor
open Go.Lf Go.RowKit

section
variable {T : List Tm} {secs : List Int} {nw : Int} {sec : Int} {seen l : List Int} {n : Nat}

/-! nothing is opened -/

/-! the first one is an onion -/

end

end Go.Proofs.YtoclhecldmahiaaDoor

/-
  Of rounds: what is wrong with one; onions of unlike draws; rows.
-/
set_option linter.unusedVariables false
set_option linter.unusedSimpArgs false
namespace Go.Proofs.YtoclhecldmahiaaDoor
open Go.Lf Go.RowKit

theorem nat_of_eq {a b : Nat} (h : (a : Int) = (b : Int)) : a = b := by omega

theorem unlike_law {T : List Tm} (hT : TOk T) {pubs K J : List Int} {c d : Int} {X Y : Nat → Int} (h1 : OnionIn T pubs K c X) (h2 : OnionIn T pubs J d Y) :
    (∀ i, i < 3 → ((K[i]?.getD 0 = J[i]?.getD 0) ↔ c = d)) ∧ ∀ m, m ≤ 3 → 1 ≤ m → (X m = Y m ↔ c = d ∧ X 0 = Y 0) := by
  have hk : ∀ i, i < 3 → ((K[i]?.getD 0 = J[i]?.getD 0) ↔ c = d) := by
    intro i hi
    have hKl := h1.kl
    have hJl := h2.kl
    obtain ⟨n, e1, e2⟩ := h1.key i K[i] (List.getElem?_eq_getElem (by omega))
    obtain ⟨n', f1, f2⟩ := h2.key i J[i] (List.getElem?_eq_getElem (by omega))
    rw [List.getElem?_eq_getElem (by omega), List.getElem?_eq_getElem (by omega), Option.getD_some, Option.getD_some, e1, f1]
    constructor
    · intro h
      rw [nat_of_eq h] at e2
      have := some_two e2 f2
      simpa using this
    · rintro rfl
      rw [hT.once _ _ _ e2 f2]
  refine ⟨hk, fun m => ?_⟩
  have step : ∀ j, j < 3 → (X (j + 1) = Y (j + 1) ↔ c = d ∧ X j = Y j) := by
    intro j hj
    obtain ⟨o, w, e1, e2, e3⟩ := h1.lay j hj
    obtain ⟨o', w', f1, f2, f3⟩ := h2.lay j hj
    rw [e1, f1]
    constructor
    · intro h
      rw [nat_of_eq h] at e2
      have := some_two e2 f2
      simp only [Tm.mk.injEq, List.cons.injEq, true_and, and_true] at this
      rw [nat_of_eq this.1] at e3
      have h3 := some_two e3 f3
      simp only [Tm.mk.injEq, List.cons.injEq, true_and, and_true] at h3
      exact ⟨h3, this.2.1⟩
    · rintro ⟨rfl, hx⟩
      have ew := hT.once _ _ _ e3 f3
      rw [(hk (2 - j) (by omega)).2 rfl, hx, ew] at e2
      rw [hT.once _ _ _ e2 f2]
  induction m with
  | zero => intro _ h; omega
  | succ m ih =>
    intro hm _
    rw [step m (by omega)]
    rcases Nat.eq_zero_or_pos m with rfl | h0
    · exact Iff.rfl
    · rw [ih (by omega) h0]
      constructor
      · rintro ⟨h, _, h'⟩; exact ⟨h, h'⟩
      · rintro ⟨h, h'⟩; exact ⟨h, h, h'⟩

theorem put_pub {T : List Tm} {x : Nat} (hx : inT T x) (hl : T.length ≤ 1000000) : ∃ y : Nat, (put T ⟨5, 0, [(x : Int)]⟩).2.1 = y ∧ (put T ⟨5, 0, [(x : Int)]⟩).2.2 = 0 ∧ (put T ⟨5, 0, [(x : Int)]⟩).1[y]? = some ⟨5, 0, [(x : Int)]⟩ ∧ Grown T (put T ⟨5, 0, [(x : Int)]⟩).1 1 := by
  have he : errOf T ⟨5, 0, [(x : Int)]⟩ = 0 := errOk (by simp) (by simp) (.inr rfl) (by simp [least]) (by simp [mostOf]) (by simpa using hx)
  obtain ⟨y, h1, h2, h3⟩ := putAt he (by omega)
  exact ⟨y, h1, h2, h3, Grown.put _ (by simp)⟩

def wrongB (l : List Int) (P : List (List Int)) : Int := if P.length ≠ 3 ∨ 100 < l.length then 2 else if ¬ ∀ p ∈ P, permOk p l.length then 1 else 0
theorem wrongT_B {T : List Tm} {st : MxS} {secs l la : List Int} {P : List (List Int)} (hs : secs.length = 3) (hl : la.length = l.length) (h : allIn T st secs la) : wrongT T st secs la P = wrongB l P := by
  unfold wrongT wrongB
  rw [hl]
  by_cases h1 : P.length ≠ 3 ∨ 100 < l.length
  · rw [if_pos (.inr h1), if_pos h1]
  · rw [if_neg (fun hh => hh.elim (fun hh => hh hs) h1), if_neg h1]
    by_cases h2 : ∀ p ∈ P, permOk p l.length
    · have a1 : ¬ ¬ ∀ p ∈ P, permOk p l.length := fun hh => hh h2
      have a2 : ¬ ¬ allIn T st secs la := fun hh => hh h
      rw [if_neg a1, if_neg a1, if_neg a2]
    · rw [if_pos h2, if_pos h2]

theorem rowsL_perm {t sp : Sl} {ys : List Int} {Z : List (Sl × List Int)} {R : List Asn} : (ownA t ys :: rowsA sp (Z ++ [(t, ys)]) :: ((Z.map fun z => ownA z.1 z.2) ++ R)).Perm (rowsL sp (Z ++ [(t, ys)]) ++ R) := by
  have h := (List.Perm.swap (rowsA sp (Z ++ [(t, ys)])) (ownA t ys) ((Z.map fun z => ownA z.1 z.2) ++ R)).trans (List.Perm.cons _ (List.perm_middle (l₁ := Z.map fun z => ownA z.1 z.2) (a := ownA t ys) (l₂ := R)).symm)
  have e : rowsL sp (Z ++ [(t, ys)]) ++ R = rowsA sp (Z ++ [(t, ys)]) :: ((Z.map fun z => ownA z.1 z.2) ++ ownA t ys :: R) := by
    unfold rowsL
    rw [List.map_append]
    show rowsA sp (Z ++ [(t, ys)]) :: (((Z.map fun z => ownA z.1 z.2) ++ [ownA t ys]) ++ R) = _
    rw [List.append_assoc]
    rfl
  rw [e]
  exact h

section
variable {W w w' : World} {L R Y K : List Asn} {y p pp a b : Addr} {A B : List Tm} {n m : Nat}
theorem PairAt.cut (h : PairAt W w pp a b A B n (K ++ R)) : PairAt W w pp a b A B n R := h.onR fun M h1 => by
  have h2 : At W w (K ++ (prA pp a b M :: ([arT a A, pgT b B] ++ R))) := h1.perm (permK (K := K) (S := [arT a A, pgT b B])).symm
  exact h2.dropL
/-- behind an append to numbers -/
theorem PairAt.more_at (k : Nat) {s : Sl} {xs : List Int} (hk : R[k]? = some (ownA s xs)) (h : PairAt W w pp a b A B n R) (x : Int) (hx : xs.length ≤ 100000000) :
    ∃ (s' : Sl) (w' : World), (builtin .append #[29, 29] 29 #[] #[.slice s.a s.len s.cap, .slice (some (newA w)) 1 1]).run Tryd.prog (w.alloc (.cells #[.int .i64 x] 3)) = .ok (.value (.slice s'.a s'.len s'.cap)) w' ∧ PairAt W w' pp a b A B n (R.set k (ownA s' (xs ++ [x]))) := by
  obtain ⟨M, h1, h2⟩ := h
  obtain ⟨s', w', r, h3⟩ := Proofs.YtoclhecldmahiaaDoor.more_at (k + 3) (by simpa using hk) h1 x hx
  exact ⟨s', w', r, M, h3, h2⟩

end

theorem SealC.read {T : List Tm} {K : List Int} (hK : K.length = 3) (kin : ∀ k ∈ K, inT T k) {y v : Int} (h : SealC T K 3 y v) : readP T K y = (v, 0) := by
  obtain ⟨o0, y0, rfl, h0, o1, y1, rfl, h1, o2, y2, rfl, h2, h3⟩ := h
  have h3 : y2 = v := h3
  subst h3
  unfold readP
  rw [if_neg (by omega), if_neg (fun hh => hh ⟨kin, inT_of h0⟩)]
  match K, hK with
  | [k0, k1, k2], _ =>
    have e0 : openT T o0 k0 = ([(o1 : Int)], 0) := open_hit h0 (kin _ (by simp))
    have e1 : openT T o1 k1 = ([(o2 : Int)], 0) := open_hit h1 (kin _ (by simp))
    have e2 : openT T o2 k2 = ([y2], 0) := open_hit h2 (kin _ (by simp))
    rw [readL_cons, e0]
    show readL _ [k1, k2] (o1 : Int) = _
    rw [readL_cons, e1]
    show readL _ [k2] (o2 : Int) = _
    rw [readL_cons, e2]
    rfl

end Go.Proofs.YtoclhecldmahiaaDoor
