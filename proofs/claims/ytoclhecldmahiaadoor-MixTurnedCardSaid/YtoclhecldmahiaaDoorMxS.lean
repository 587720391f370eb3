/-
  Rounds over two arenas: what is opened, placed, sealed back.
-/
import Derived.Test.YtoclhecldmahiaaDoorMxQ
set_option linter.unusedVariables false
set_option linter.unusedVariables false
set_option linter.unusedSimpArgs false
namespace Go.Proofs.YtoclhecldmahiaaDoor
open Go.Lf Go.RowKit

theorem perm_all {p : List Int} {n : Nat} (h : permOk p n) {i : Nat} (hi : i < n) : ∃ j : Nat, j < n ∧ p[j]?.getD 0 = i := by
  obtain ⟨h1, h2, h3⟩ := h
  by_cases hm : (i : Int) ∈ p
  · obtain ⟨j, hj⟩ := List.getElem?_of_mem hm
    have := (List.getElem?_eq_some_iff.1 hj).1
    exact ⟨j, by omega, by rw [hj]; rfl⟩
  · have := List.Nodup.length_le_of_subset (l₁ := (i : Int) :: p) (l₂ := (List.range n).map fun (i : Nat) => (i : Int)) (List.nodup_cons.2 ⟨hm, h3⟩) (fun x hx => by
      rw [List.mem_cons] at hx
      rcases hx with rfl | hx
      · exact List.mem_map.2 ⟨i, List.mem_range.2 hi, rfl⟩
      · have := h2 x hx
        exact List.mem_map.2 ⟨x.toNat, List.mem_range.2 (by omega), by omega⟩)
    simp at this
    omega
theorem perm_ne {p : List Int} {n : Nat} (h : permOk p n) {i j : Nat} (hi : i < n) (hj : j < n) (hne : i ≠ j) : p[i]?.getD 0 ≠ p[j]?.getD 0 := by
  obtain ⟨h1, h2, h3⟩ := h
  rw [List.getElem?_eq_getElem (by omega), List.getElem?_eq_getElem (by omega)]
  rcases Nat.lt_or_gt_of_ne hne with h | h
  · exact List.pairwise_iff_getElem.1 h3 i j (by omega) (by omega) h
  · exact fun e => List.pairwise_iff_getElem.1 h3 j i (by omega) (by omega) h e.symm

/-- what the servers hold, over two arenas -/
structure StEv (A B : List Tm) (sa sb : MxS) : Prop where
  regs : RegEv A B sa.regs sb.regs
  seen : ∀ k, k < 3 → EvL A B (sa.seen k) (sb.seen k)
theorem StEv.mono {A B A' B' : List Tm} (hA : Ext A A') (hB : Ext B B') {sa sb : MxS} (h : StEv A B sa sb) : StEv A' B' sa sb := ⟨h.regs.mono hA hB, fun k hk => (h.seen k hk).mono hA hB⟩

def OpEv (A B : List Tm) : Option (Int × Int) → Option (Int × Int) → Prop
  | .some x, .some y => Ev A B x.1 y.1 ∧ Ev A B x.2 y.2
  | .none, .none => True
  | _, _ => False

section
variable {A B A' B' : List Tm} {sA sB nA nB : Int} {la lb ea eb perm : List Int}

theorem EvL.mem (hA : TOk A) (hB : TOk B) {xs ys : List Int} (h : EvL A B xs ys) {t u : Int} (ht : Ev A B t u) : t ∈ xs ↔ u ∈ ys := by
  have hl := h.1
  constructor
  · intro hm
    obtain ⟨j, hj⟩ := List.getElem?_of_mem hm
    have hlt := (List.getElem?_eq_some_iff.1 hj).1
    have hy : ys[j]? = some (ys[j]'(by omega)) := List.getElem?_eq_getElem (by omega)
    have := (ht.same_iff hA hB (h.2 j t _ hj hy)).1 rfl
    rw [this]
    exact List.mem_of_getElem? hy
  · intro hm
    obtain ⟨j, hj⟩ := List.getElem?_of_mem hm
    have hlt := (List.getElem?_eq_some_iff.1 hj).1
    have hy : xs[j]? = some (xs[j]'(by omega)) := List.getElem?_eq_getElem (by omega)
    have := (ht.same_iff hA hB (h.2 j _ u hy hj)).2 rfl
    rw [this]
    exact List.mem_of_getElem? hy

theorem stepS_ev (hA : TOk A) (hB : TOk B) (hs : Ev A B sA sB) (he : EvL A B ea eb) {t u : Int} (ht : Ev A B t u) : OpEv A B (stepS A sA ea t).1 (stepS B sB eb u).1 ∧ EvL A B (stepS A sA ea t).2 (stepS B sB eb u).2 := by
  obtain ⟨p1, _, p3⟩ := peel_rel hA hB hs.rel ht.rel
  have hm := he.mem hA hB ht
  unfold stepS
  by_cases hc : (peelT B sB u).2.2 ≠ 0 ∨ u ∈ eb
  · rw [if_pos (show (peelT A sA t).2.2 ≠ 0 ∨ t ∈ ea by rw [p1, hm]; exact hc), if_pos hc]
    exact ⟨trivial, he⟩
  · rw [if_neg (show ¬ ((peelT A sA t).2.2 ≠ 0 ∨ t ∈ ea) by rw [p1, hm]; exact hc), if_neg hc]
    exact ⟨p3 (Classical.byContradiction fun hh => hc (.inl hh)), he.app ht⟩

theorem openS_ev (hA : TOk A) (hB : TOk B) (hs : Ev A B sA sB) (he : EvL A B ea eb) (hl : EvL A B la lb) : ∀ k, k ≤ lb.length →
    EvL A B (openS A sA ea la k).2 (openS B sB eb lb k).2 ∧ ∀ q, q < k → OpEv A B ((openS A sA ea la k).1[q]?.getD .none) ((openS B sB eb lb k).1[q]?.getD .none)
  | 0, _ => ⟨he, fun q hq => absurd hq (by omega)⟩
  | k + 1, hk => by
    obtain ⟨h1, h2⟩ := openS_ev hA hB hs he hl k (by omega)
    obtain ⟨s1, s2⟩ := stepS_ev hA hB hs h1 (hl.at_ (i := k) (by omega))
    refine ⟨s2, fun q hq => ?_⟩
    show OpEv A B (((openS A sA ea la k).1 ++ [_])[q]?.getD .none) (((openS B sB eb lb k).1 ++ [_])[q]?.getD .none)
    by_cases hqk : q < k
    · rw [List.getElem?_append_left (by rw [openS_len]; exact hqk), List.getElem?_append_left (by rw [openS_len]; exact hqk)]
      exact h2 q hqk
    · obtain rfl : q = k := by omega
      rw [List.getElem?_append_right (by rw [openS_len]; exact Nat.le_refl _), List.getElem?_append_right (by rw [openS_len]; exact Nat.le_refl _), openS_len, openS_len, Nat.sub_self]
      exact s1

theorem inO_ev (hn : Ev A B nA nB) {a b : Option (Int × Int)} (h : OpEv A B a b) : Ev A B (inO nA a) (inO nB b) := by
  cases a with
  | none => cases b with
    | none => exact hn
    | some y => exact h.elim
  | some x => cases b with
    | none => exact h.elim
    | some y => exact h.1

theorem onS_ev (hA : TOk A) (hB : TOk B) (hs : Ev A B sA sB) (hn : Ev A B nA nB) (he : EvL A B ea eb) (hl : EvL A B la lb) (hp : permOk perm lb.length) : ∀ k, k ≤ lb.length →
    ∀ j, j < k → Ev A B ((onS A sA nA ea la perm k)[(perm[j]?.getD 0).toNat]?.getD 0) ((onS B sB nB eb lb perm k)[(perm[j]?.getD 0).toNat]?.getD 0)
  | 0, _, j, hj => absurd hj (by omega)
  | k + 1, hk, j, hj => by
    have ih := onS_ev hA hB hs hn he hl hp k (by omega)
    obtain ⟨h1, _⟩ := openS_ev hA hB hs he hl k (by omega)
    obtain ⟨s1, _⟩ := stepS_ev hA hB hs h1 (hl.at_ (i := k) (by omega))
    have hlen := hl.1
    have hpl := hp.1
    have hpk := hp.2.1 _ (getD_mem (l := perm) (k := k) (by omega))
    have hpj := hp.2.1 _ (getD_mem (l := perm) (k := j) (by omega))
    show Ev A B (((onS A sA nA ea la perm k).set _ _)[_]?.getD 0) (((onS B sB nB eb lb perm k).set _ _)[_]?.getD 0)
    by_cases hjk : j = k
    · subst hjk
      rw [List.getElem?_set_self (by rw [onS_len]; omega), List.getElem?_set_self (by rw [onS_len]; omega)]
      exact inO_ev hn s1
    · have hne := perm_ne hp (i := j) (j := k) (by omega) (by omega) hjk
      rw [List.getElem?_set_ne (by omega), List.getElem?_set_ne (by omega)]
      exact ih j (by omega)

theorem onS_evL (hA : TOk A) (hB : TOk B) (hs : Ev A B sA sB) (hn : Ev A B nA nB) (he : EvL A B ea eb) (hl : EvL A B la lb) (hp : permOk perm lb.length) : EvL A B (onS A sA nA ea la perm lb.length) (onS B sB nB eb lb perm lb.length) := by
  have hlen := hl.1
  refine ⟨by rw [onS_len, onS_len]; exact hlen, fun q k x hk hx => ?_⟩
  have hq := (List.getElem?_eq_some_iff.1 hx).1
  rw [onS_len] at hq
  obtain ⟨j, hj, e⟩ := perm_all hp hq
  have := onS_ev hA hB hs hn he hl hp lb.length (Nat.le_refl _) j hj
  rw [e, Int.toNat_natCast, hk, hx] at this
  exact this

theorem sealS_ev {oa ob : List (Option (Int × Int))} {ba bb : List Int} (hlA : A.length ≤ 800000) (hlB : B.length ≤ 800000) (hol : oa.length = ob.length) (ho : ∀ q, q < ob.length → OpEv A B (oa[q]?.getD .none) (ob[q]?.getD .none)) (hn : Ev A B nA nB) (hb : EvL A B ba bb) (hp : permOk perm bb.length) (hpl : bb.length = ob.length) (hk100 : ob.length ≤ 1000) : ∀ k, k ≤ ob.length →
    Ext A (sealS A (oa.map keyO) perm ba nA k).1 ∧ Ext B (sealS B (ob.map keyO) perm bb nB k).1 ∧ (sealS A (oa.map keyO) perm ba nA k).1.length ≤ A.length + k ∧ (sealS B (ob.map keyO) perm bb nB k).1.length ≤ B.length + k ∧
      EvL (sealS A (oa.map keyO) perm ba nA k).1 (sealS B (ob.map keyO) perm bb nB k).1 (sealS A (oa.map keyO) perm ba nA k).2 (sealS B (ob.map keyO) perm bb nB k).2
  | 0, _ => ⟨Ext.refl _, Ext.refl _, Nat.le_refl _, Nat.le_refl _, EvL.nil _ _⟩
  | k + 1, hk => by
    obtain ⟨xA, xB, gA, gB, h⟩ := sealS_ev hlA hlB hol ho hn hb hp hpl hk100 k (by omega)
    have hop := ho k (by omega)
    have eA : (oa.map keyO)[k]?.getD 0 = keyO (oa[k]?.getD .none) := by rw [List.getElem?_map, List.getElem?_eq_getElem (by omega)]; rfl
    have eB : (ob.map keyO)[k]?.getD 0 = keyO (ob[k]?.getD .none) := by rw [List.getElem?_map, List.getElem?_eq_getElem (by omega)]; rfl
    have hpk := hp.2.1 _ (getD_mem (l := perm) (k := k) (by have := hp.1; omega))
    generalize oa[k]?.getD .none = a at hop eA
    generalize ob[k]?.getD .none = b at hop eB
    cases a with
    | none =>
      cases b with
      | some y => exact hop.elim
      | none =>
        have e1 : sealS A (oa.map keyO) perm ba nA (k + 1) = ((sealS A (oa.map keyO) perm ba nA k).1, (sealS A (oa.map keyO) perm ba nA k).2 ++ [nA]) := by
          show (if 0 ≤ (oa.map keyO)[k]?.getD 0 then _ else _) = _
          rw [eA, if_neg (show ¬ 0 ≤ keyO none by decide)]
        have e2 : sealS B (ob.map keyO) perm bb nB (k + 1) = ((sealS B (ob.map keyO) perm bb nB k).1, (sealS B (ob.map keyO) perm bb nB k).2 ++ [nB]) := by
          show (if 0 ≤ (ob.map keyO)[k]?.getD 0 then _ else _) = _
          rw [eB, if_neg (show ¬ 0 ≤ keyO none by decide)]
        rw [e1, e2]
        exact ⟨xA, xB, by dsimp only; omega, by dsimp only; omega, h.app (hn.mono xA xB)⟩
    | some x =>
      cases b with
      | none => exact hop.elim
      | some y =>
        have hbk : Ev A B (ba[(perm[k]?.getD 0).toNat]?.getD 0) (bb[(perm[k]?.getD 0).toNat]?.getD 0) := hb.at_ (by omega)
        have hx0 : 0 ≤ x.2 := hop.2.1
        have hy0 : 0 ≤ y.2 := hop.2.2.1
        have e1 : sealS A (oa.map keyO) perm ba nA (k + 1) = ((put (sealS A (oa.map keyO) perm ba nA k).1 ⟨6, 0, [x.2, ba[(perm[k]?.getD 0).toNat]?.getD 0]⟩).1, (sealS A (oa.map keyO) perm ba nA k).2 ++ [(put (sealS A (oa.map keyO) perm ba nA k).1 ⟨6, 0, [x.2, ba[(perm[k]?.getD 0).toNat]?.getD 0]⟩).2.1]) := by
          show (if 0 ≤ (oa.map keyO)[k]?.getD 0 then _ else _) = _
          rw [eA, if_pos (show 0 ≤ keyO (some x) from hx0)]
          rfl
        have e2 : sealS B (ob.map keyO) perm bb nB (k + 1) = ((put (sealS B (ob.map keyO) perm bb nB k).1 ⟨6, 0, [y.2, bb[(perm[k]?.getD 0).toNat]?.getD 0]⟩).1, (sealS B (ob.map keyO) perm bb nB k).2 ++ [(put (sealS B (ob.map keyO) perm bb nB k).1 ⟨6, 0, [y.2, bb[(perm[k]?.getD 0).toNat]?.getD 0]⟩).2.1]) := by
          show (if 0 ≤ (ob.map keyO)[k]?.getD 0 then _ else _) = _
          rw [eB, if_pos (show 0 ≤ keyO (some y) from hy0)]
          rfl
        have hargs : EvL (sealS A (oa.map keyO) perm ba nA k).1 (sealS B (ob.map keyO) perm bb nB k).1 [x.2, ba[(perm[k]?.getD 0).toNat]?.getD 0] [y.2, bb[(perm[k]?.getD 0).toNat]?.getD 0] :=
          EvL.cons (hop.2.mono xA xB) (EvL.cons (hbk.mono xA xB) (EvL.nil _ _))
        obtain ⟨_, _, hev⟩ := Ev.put (k := 6) (n := 0) hargs (err_seal (xB.inT hop.2.inB) (xB.inT hbk.inB)) (by omega) (by omega)
        have p1 := (put_len1 (sealS A (oa.map keyO) perm ba nA k).1 ⟨6, 0, [x.2, ba[(perm[k]?.getD 0).toNat]?.getD 0]⟩).1
        have p2 := (put_len1 (sealS B (ob.map keyO) perm bb nB k).1 ⟨6, 0, [y.2, bb[(perm[k]?.getD 0).toNat]?.getD 0]⟩).1
        rw [e1, e2]
        exact ⟨xA.trans (Ext.put _ _), xB.trans (Ext.put _ _), by dsimp only; omega, by dsimp only; omega, (h.mono (Ext.put _ _) (Ext.put _ _)).app hev⟩
end

theorem sealS_ev2 {A B : List Tm} {nA nB : Int} {perm : List Int} {oa ob : List (Option (Int × Int))} {ba bb : List Int} (hlA : A.length ≤ 800000) (hlB : B.length ≤ 800000) (hol : oa.length = ob.length) (ho : ∀ q, q < ob.length → OpEv A B (oa[q]?.getD .none) (ob[q]?.getD .none)) (hn : Ev A B nA nB) (hb : EvL A B ba bb) (hp : permOk perm bb.length) (hpl : bb.length = ob.length) (hk100 : ob.length ≤ 1000) {ka kb : Nat} (hka : ka = kb) (hkb : kb = ob.length) :
    Ext A (sealS A (oa.map keyO) perm ba nA ka).1 ∧ Ext B (sealS B (ob.map keyO) perm bb nB kb).1 ∧ EvL (sealS A (oa.map keyO) perm ba nA ka).1 (sealS B (ob.map keyO) perm bb nB kb).1 (sealS A (oa.map keyO) perm ba nA ka).2 (sealS B (ob.map keyO) perm bb nB kb).2 := by
  subst hka hkb
  obtain ⟨x1, x2, _, _, x5⟩ := sealS_ev hlA hlB hol ho hn hb hp hpl hk100 ob.length (Nat.le_refl _)
  exact ⟨x1, x2, x5⟩

/-- a round over two arenas -/
theorem rnd_ev {A B : List Tm} {nA nB : Int} {za zb : List Int} {P : Nat → List Int} (hA : TOk A) (hB : TOk B) (hn : Ev A B nA nB) (hz : EvL A B za zb) : ∀ (d : Nat) {s : Nat} {sa sb : MxS} {la lb : List Int}, s + d = 3 → RdIn A nA za P sa la → RdIn B nB zb P sb lb → A.length + 100 * d ≤ 700000 → B.length + 100 * d ≤ 700000 → StEv A B sa sb → EvL A B la lb →
    StEv (rndT A nA za P d s sa la).1 (rndT B nB zb P d s sb lb).1 (rndT A nA za P d s sa la).2.1 (rndT B nB zb P d s sb lb).2.1 ∧ EvL (rndT A nA za P d s sa la).1 (rndT B nB zb P d s sb lb).1 (rndT A nA za P d s sa la).2.2 (rndT B nB zb P d s sb lb).2.2
  | 0, s, sa, sb, la, lb, hsd, ha, hb, hlA, hlB, hst, hl => by
    obtain ⟨e1, e2⟩ := doT_ev hA hB (by omega) (by omega) hl hst.regs
    obtain ⟨_, _, _, _, ga⟩ := wordT_good (T := A) (by omega)
    obtain ⟨_, _, _, _, gb⟩ := wordT_good (T := B) (by omega)
    exact ⟨⟨e1, fun k hk => (hst.seen k hk).mono ga.ext gb.ext⟩, e2⟩
  | d + 1, s, sa, sb, la, lb, hsd, ha, hb, hlA, hlB, hst, hl => by
    have hs3 : s < 3 := by omega
    have hlen := hl.1
    have hfa := ha.few
    have hfb := hb.few
    have hps := hb.permin s hs3
    have hsec : Ev A B (za[s]?.getD 0) (zb[s]?.getD 0) := hz.at_ (by have := hb.secl; omega)
    obtain ⟨o1, o2⟩ := openS_ev hA hB hsec (hst.seen s hs3) hl lb.length (Nat.le_refl _)
    have on := onS_evL hA hB hsec hn (hst.seen s hs3) hl hps
    have eqn : lb.length = la.length := hlen.symm
    rw [show openS A (za[s]?.getD 0) (sa.seen s) la lb.length = openS A (za[s]?.getD 0) (sa.seen s) la la.length by rw [eqn]] at o1 o2
    rw [show onS A (za[s]?.getD 0) nA (sa.seen s) la (P s) lb.length = onS A (za[s]?.getD 0) nA (sa.seen s) la (P s) la.length by rw [eqn]] at on
    have hst1 : StEv A B (seenAt sa s (openS A (za[s]?.getD 0) (sa.seen s) la la.length).2) (seenAt sb s (openS B (zb[s]?.getD 0) (sb.seen s) lb lb.length).2) := by
      refine ⟨hst.regs, fun k hk => ?_⟩
      show EvL A B (if k = s then _ else _) (if k = s then _ else _)
      split
      · exact o1
      · exact hst.seen k hk
    have hna := ha.next hs3
    have hnb := hb.next hs3
    obtain ⟨r1, r2⟩ := rnd_ev hA hB hn hz d (s := s + 1) (by omega) hna hnb (by omega) (by omega) hst1 on
    obtain ⟨gA, qa1, _, _⟩ := rnd_good d (s := s + 1) (by omega) hna (by omega)
    obtain ⟨gB, qb1, _, _⟩ := rnd_good d (s := s + 1) (by omega) hnb (by omega)
    have glA := gA.len
    have glB := gB.len
    rw [onS_len] at qa1 qb1
    have hop : ∀ q, q < (openS B (zb[s]?.getD 0) (sb.seen s) lb lb.length).1.length → OpEv (rndT A nA za P d (s + 1) (seenAt sa s (openS A (za[s]?.getD 0) (sa.seen s) la la.length).2) (onS A (za[s]?.getD 0) nA (sa.seen s) la (P s) la.length)).1
        (rndT B nB zb P d (s + 1) (seenAt sb s (openS B (zb[s]?.getD 0) (sb.seen s) lb lb.length).2) (onS B (zb[s]?.getD 0) nB (sb.seen s) lb (P s) lb.length)).1 ((openS A (za[s]?.getD 0) (sa.seen s) la la.length).1[q]?.getD .none) ((openS B (zb[s]?.getD 0) (sb.seen s) lb lb.length).1[q]?.getD .none) := by
      intro q hq
      rw [openS_len] at hq
      have := o2 q hq
      revert this
      generalize (openS A (za[s]?.getD 0) (sa.seen s) la la.length).1[q]?.getD .none = a
      generalize (openS B (zb[s]?.getD 0) (sb.seen s) lb lb.length).1[q]?.getD .none = b
      intro this
      cases a with
      | none => cases b with
        | none => trivial
        | some y => exact this.elim
      | some x => cases b with
        | none => exact this.elim
        | some y => exact ⟨this.1.mono gA.ext gB.ext, this.2.mono gA.ext gB.ext⟩
    obtain ⟨x1, x2, x5⟩ := sealS_ev2 (oa := (openS A (za[s]?.getD 0) (sa.seen s) la la.length).1) (ob := (openS B (zb[s]?.getD 0) (sb.seen s) lb lb.length).1) (perm := P s) (by omega) (by omega) (by rw [openS_len, openS_len]; exact hlen) hop (hn.mono gA.ext gB.ext) r2 (by rw [qb1]; exact hps) (by rw [qb1, openS_len]) (by rw [openS_len]; omega) (ka := la.length) (kb := lb.length) hlen (by rw [openS_len])
    exact ⟨r1.mono x1 x2, x5⟩

end Go.Proofs.YtoclhecldmahiaaDoor

/-
  Rounds over a pair of arenas: states, rounds.
-/
set_option linter.unusedVariables false
set_option linter.unusedSimpArgs false
namespace Go.Proofs.YtoclhecldmahiaaDoor
open Go.Lf Go.RowKit

theorem Regs.none {w : World} {s : Sl} {rs : List Rg} (h : Regs w s rs) (hn : s.a = .none) : rs = [] := by
  cases rs with
  | nil => rfl
  | cons r rs =>
    obtain ⟨q, hq, _⟩ := h.cell 0 r rfl
    rw [hn] at hq
    cases hq

section
variable {W w w' : World} {L R Y : List Asn} {y p pp a b : Addr} {A B T T1 : List Tm} {n : Nat} {nw : Int} {sec sp sr sl : Sl} {ss : Nat → Sl} {st : MxS} {Z : List (Sl × List Int)} {secs l : List Int}

theorem PairAt.addK {M : List Nat} {K : List Asn} (h : At W w (K ++ (prA pp a b M :: arT a A :: pgT b B :: R))) (hr : PairOk A B M ∧ Nb B ∧ A.length + (B.length - M.length) ≤ n ∧ B.length ≤ n) : PairAt W w pp a b A B n (K ++ R) :=
  ⟨M, h.perm (permK (K := K) (S := [_, _])), hr⟩
theorem PairAt.mbox (h : PairAt W w pp a b A B n R) (ty : TypeId) (cs : List Value) : PairAt W (w.alloc (.cells cs.toArray ty)) pp a b A B n (boxA (newA w) cs :: R) :=
  h.onR fun M h1 => (((h1.box ty cs).front 3 rfl).front 3 rfl).front 3 rfl
theorem PairAt.mtmp (h : PairAt W w pp a b A B n R) (ty : TypeId) {zs cs : List Value} (hl : zs.length = cs.length) :
    (∀ j, j < cs.length → Wr (w.alloc (.cells zs.toArray ty)) ((newA w).add j)) ∧ PairAt W (setCells (newA w) cs 0 (w.alloc (.cells zs.toArray ty))) pp a b A B n (boxA (newA w) cs :: R) := by
  obtain ⟨M, h1, hr⟩ := h
  exact ⟨(h1.tmp ty hl).1, PairAt.addK (K := [_]) (h1.tmp ty hl).2 hr⟩
theorem PairAt.mset4 (h : PairAt W w pp a b A B n R) (k : Nat) {q : Addr} {x y z u : Value} (hk : R[k]? = some (boxA q [x, y, z, u])) (c d e f : Value) : (∀ j, j < 4 → Wr w (q.add j)) ∧ PairAt W (setCells q [c, d, e, f] 0 w) pp a b A B n (R.set k (boxA q [c, d, e, f])) := by
  obtain ⟨M, h1, hr⟩ := h
  obtain ⟨wr, h2⟩ := h1.set4 (k + 3) (by simpa using hk) c d e f
  exact ⟨wr, M, h2, hr⟩
theorem PairAt.mless (h : PairAt W w pp a b A B n R) (k : Nat) {X : Asn} (hk : R[k]? = some X) : PairAt W w pp a b A B n (R.eraseIdx k) := by
  obtain ⟨M, h1, hr⟩ := h
  exact ⟨M, h1.less (k + 3) (by simpa using hk), hr⟩
theorem PairAt.mcell0 (h : PairAt W w pp a b A B n R) (k : Nat) {q : Addr} {c : Value} {cs : List Value} (hk : R[k]? = some (boxA q (c :: cs))) : w.cell? q = some c := by
  obtain ⟨M, h1, hr⟩ := h
  exact h1.s.cell0 (k + 3) (by simpa using hk) rfl
theorem PairAt.mcell (h : PairAt W w pp a b A B n R) (k : Nat) {q : Addr} {cs : List Value} (hk : R[k]? = some (boxA q cs)) (j : Nat) {c : Value} (hj : cs[j]? = some c) : w.cell? (q.add j) = some c := by
  obtain ⟨M, h1, hr⟩ := h
  exact h1.s.cell (k + 3) (by simpa using hk) j hj
theorem PairAt.mup (h : PairAt W w pp a b A B n R) {m : Nat} (hm : n ≤ m) : PairAt W w pp a b A B m R := by
  obtain ⟨M, h1, q1, q2, q3, q4⟩ := h
  exact ⟨M, h1, q1, q2, by omega, by omega⟩

theorem PairAt.seen_put {s : Nat} {s' : Sl} {ys : List Int} (h : PairAt W w pp a b A B n (ownA s' ys :: (pmxL y sr ss st ++ Y))) (hs : s < 3) : Wr w ((y.add 1).add s) ∧
    PairAt W (w.setCell ((y.add 1).add s) (.slice s'.a s'.len s'.cap)) pp a b A B n (pmxL y sr (fun j => if j = s then s' else ss j) (seenAt st s ys) ++ Y) := by
  obtain ⟨M, h1, hr⟩ := h
  have h2 : At W w (ownA s' ys :: (pmxL y sr ss st ++ (Y ++ [prA pp a b M, arT a A, pgT b B]))) := h1.perm (by
    have := List.perm_append_comm (l₁ := [prA pp a b M, arT a A, pgT b B]) (l₂ := ownA s' ys :: (pmxL y sr ss st ++ Y))
    simpa [List.append_assoc] using this)
  obtain ⟨wr, h3⟩ := seen_putP h2 hs
  refine ⟨wr, M, h3.perm ?_, hr⟩
  have := List.perm_append_comm (l₁ := pmxL y sr (fun j => if j = s then s' else ss j) (seenAt st s ys) ++ Y) (l₂ := [prA pp a b M, arT a A, pgT b B])
  simpa [List.append_assoc] using this

/-- a round on the arena of a pair -/
theorem mround_pair (h : PairAt W w pp a b A B n R) (hn : n ≤ 600000) (hM : MixRd W R sr ss st) (hrl : st.regs.length ≤ 10000) (hsl : ∀ k, k < 3 → (st.seen k).length ≤ 1000000) (hS : ∀ L w', At W w' (L ++ R) → Ints .i64 w' sec secs) (hL : ∀ L w', At W w' (L ++ R) → Ints .i64 w' sl l) (hP : ∀ L w', At W w' (L ++ R) → Rw w' sp Z) :
    CallsV Tryd.prog n_mix_Round #[.pointer (some a), mV sr ss, sV sec, sV sl, sV sp] w fun v w' => ∃ (sr' so : Sl) (ss' : Nat → Sl) (st' : MxS) (out : List Int) (A' : List Tm), v = .tuple #[mV sr' ss', sV so, .int .i64 (wrongT A st secs l (rowsP Z))] ∧
      PairAt W w' pp a b A' B (n + 301) (mixL sr' ss' st' ++ (ownA so out :: R)) ∧ Ext A A' ∧ (wrongT A st secs l (rowsP Z) = 0 → A' = (roundT A st secs l (rowP Z)).1 ∧ st' = (roundT A st secs l (rowP Z)).2.1 ∧ out = (roundT A st secs l (rowP Z)).2.2) ∧ (wrongT A st secs l (rowsP Z) ≠ 0 → st' = ⟨[], fun _ => []⟩ ∧ out = []) := by
  obtain ⟨M, h1, hp, hnb, l1, l2⟩ := h
  have h2 : At W w (arT a A :: (prA pp a b M :: pgT b B :: R)) := h1.front 1 rfl
  have hok : TOk A := h2.ok
  have hMl := hp.len
  have up : ∀ {P : World → Prop}, (∀ L w', At W w' (L ++ R) → P w') → ∀ L w', At W w' (L ++ (prA pp a b M :: pgT b B :: R)) → P w' := fun hX L w' hw => hX (L ++ [_, _]) w' (by rw [List.append_assoc]; exact hw)
  refine (mround_at h2 hrl hsl (by omega) (up hM.regs) (fun hh => (hM.regs [_, _, _] w h1).none hh) (fun k hk => up (hM.seen k hk)) (up hS) (up hL) (up hP)).mono ?_
  rintro _ w' ⟨sr', so, ss', rfl, good, bad⟩
  by_cases he : wrongT A st secs l (rowsP Z) = 0
  · have h3 := good he
    have hok1 : TOk (wordT A).1 := hok.put _
    obtain ⟨hZ, hin⟩ := wrongT_in hok1 (by omega) he
    obtain ⟨_, _, _, _, gw⟩ := wordT_good (T := A) (by omega)
    have gwl := gw.len
    obtain ⟨g, _, _, _⟩ := rnd_good 3 (s := 0) rfl hin (by omega)
    have gl := g.len
    have hE : Ext A (roundT A st secs l (rowP Z)).1 := gw.ext.trans g.ext
    have hlen : (roundT A st secs l (rowP Z)).1.length ≤ A.length + 301 := by show (rndT _ _ _ _ _ _ _ _).1.length ≤ _; omega
    refine ⟨sr', so, ss', _, _, _, rfl, ⟨M, ?_, hp.mono hE (Ext.refl _), hnb, by omega, by omega⟩, hE, fun _ => ⟨rfl, rfl, rfl⟩, fun hh => absurd he hh⟩
    refine h3.perm ?_
    have : (arT a (roundT A st secs l (rowP Z)).1 :: (mixL sr' ss' (roundT A st secs l (rowP Z)).2.1 ++ (ownA so (roundT A st secs l (rowP Z)).2.2 :: prA pp a b M :: pgT b B :: R))).Perm (prA pp a b M :: arT a (roundT A st secs l (rowP Z)).1 :: pgT b B :: (mixL sr' ss' (roundT A st secs l (rowP Z)).2.1 ++ (ownA so (roundT A st secs l (rowP Z)).2.2 :: R))) := by
      have p1 : ((mixL sr' ss' (roundT A st secs l (rowP Z)).2.1 ++ [ownA so (roundT A st secs l (rowP Z)).2.2]) ++ (prA pp a b M :: ([pgT b B] ++ R))).Perm (prA pp a b M :: ([pgT b B] ++ ((mixL sr' ss' (roundT A st secs l (rowP Z)).2.1 ++ [ownA so (roundT A st secs l (rowP Z)).2.2]) ++ R))) := permK
      rw [List.append_assoc, List.append_assoc] at p1
      exact (List.Perm.cons _ p1).trans (List.Perm.swap _ _ _)
    exact this
  · obtain ⟨e1, e2, e3, h3⟩ := bad he
    subst e1 e3
    refine ⟨⟨none, 0, 0⟩, ⟨none, 0, 0⟩, fun _ => ⟨none, 0, 0⟩, ⟨[], fun _ => []⟩, [], A, ?_, ⟨M, ?_, hp, hnb, by omega, by omega⟩, Ext.refl _, fun hh => absurd hh he, fun _ => ⟨rfl, rfl⟩⟩
    · obtain rfl : ss' = fun _ => ⟨none, 0, 0⟩ := funext e2
      rfl
    · have h4 : At W w' (regA ⟨none, 0, 0⟩ [] :: ownA ⟨none, 0, 0⟩ [] :: ownA ⟨none, 0, 0⟩ [] :: ownA ⟨none, 0, 0⟩ [] :: ownA ⟨none, 0, 0⟩ [] :: arT a A :: prA pp a b M :: pgT b B :: R) := h3.nil.nil.nil.nil.regNil
      exact ((h4.front 7 rfl).front 6 rfl).front 7 rfl
end

end Go.Proofs.YtoclhecldmahiaaDoor
