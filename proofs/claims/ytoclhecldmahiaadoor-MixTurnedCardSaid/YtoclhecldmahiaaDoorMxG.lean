/-
  What the page's last server does: contract.
-/
import Derived.Test.YtoclhecldmahiaaDoorMxA
import Derived.Test.YtoclhecldmahiaaDoorOnF
set_option linter.unusedVariables false
set_option linter.unusedVariables false
set_option linter.unusedSimpArgs false
namespace Go.Proofs.YtoclhecldmahiaaDoor
open Go.Lf Go.RowKit

def plOk (x : Int × List Int) : Prop := ((x.1 = 71 ∨ x.1 = 73) ∧ x.2.length = 2) ∨ (x.1 = 72 ∧ x.2.length = 1)
instance (x : Int × List Int) : Decidable (plOk x) := by unfold plOk; infer_instance
section
variable {W w w' : World} {L R : List Asn} {p : Addr} {N : Nds} {s : Sl} {rs : List Rg} {T : List Tm}

/-- what reads as numbers as long as the page's arena stands -/
def InP (p : Addr) (N : Nds) (s : Sl) (xs : List Int) : Prop := ∀ more B w R, Sep B w (pgA p (N ++ more) :: R) → Ints .i64 w s xs
theorem InP.more {more : Nds} {xs : List Int} (h : InP p N s xs) : InP p (N ++ more) s xs := fun m B w R hs => h (more ++ m) B w R (by rw [← List.append_assoc]; exact hs)

end

end Go.Proofs.YtoclhecldmahiaaDoor

/-
  The last server over two arenas with the same terms: what it does is the same.
-/
set_option linter.unusedVariables false
set_option linter.unusedSimpArgs false
namespace Go.Proofs.YtoclhecldmahiaaDoor
open Go.Lf Go.RowKit

def RegEv (A B : List Tm) (ra rb : List Rg) : Prop := ra.length = rb.length ∧ ∀ (i : Nat) (x y : Rg), ra[i]? = some x → rb[i]? = some y → Ev A B x.1 y.1 ∧ Ev A B x.2 y.2
def QEv (A B : List Tm) (qa qb : List Rq) : Prop := qa.length = qb.length ∧ ∀ (i : Nat) (x y : Rq), qa[i]? = some x → qb[i]? = some y → x.1 = y.1 ∧ EvL A B x.2 y.2

variable {A B A' B' : List Tm}

theorem RegEv.mono (hA : Ext A A') (hB : Ext B B') {ra rb : List Rg} (h : RegEv A B ra rb) : RegEv A' B' ra rb := ⟨h.1, fun i x y hx hy => ⟨(h.2 i x y hx hy).1.mono hA hB, (h.2 i x y hx hy).2.mono hA hB⟩⟩
theorem RegEv.nil : RegEv A B [] [] := ⟨rfl, by simp⟩
theorem RegEv.tail {x y : Rg} {ra rb : List Rg} (h : RegEv A B (x :: ra) (y :: rb)) : (Ev A B x.1 y.1 ∧ Ev A B x.2 y.2) ∧ RegEv A B ra rb :=
  ⟨h.2 0 x y rfl rfl, by have := h.1; simpa using this, fun i x' y' hx hy => h.2 (i + 1) x' y' (by simpa using hx) (by simpa using hy)⟩
theorem RegEv.app {x y : Rg} {ra rb : List Rg} (h : RegEv A B ra rb) (h1 : Ev A B x.1 y.1) (h2 : Ev A B x.2 y.2) : RegEv A B (ra ++ [x]) (rb ++ [y]) := by
  have hl := h.1
  refine ⟨by simp [hl], fun i x' y' hx hy => ?_⟩
  rw [List.getElem?_append] at hx hy
  by_cases hi : i < ra.length
  · rw [if_pos hi] at hx; rw [if_pos (by omega)] at hy; exact h.2 i x' y' hx hy
  · rw [if_neg hi] at hx; rw [if_neg (by omega)] at hy
    have := (List.getElem?_eq_some_iff.1 hx).1
    simp at this
    have e : i = ra.length := by omega
    subst e
    rw [Nat.sub_self] at hx
    rw [hl, Nat.sub_self] at hy
    simp at hx hy
    subst hx hy
    exact ⟨h1, h2⟩
theorem RegEv.inB {ra rb : List Rg} (h : RegEv A B ra rb) : ∀ r ∈ rb, inT B r.1 ∧ inT B r.2 := by
  intro r hr
  obtain ⟨q, hq⟩ := List.getElem?_of_mem hr
  have hl := (List.getElem?_eq_some_iff.1 hq).1
  have h1 := h.1
  obtain ⟨e1, e2⟩ := h.2 q _ r (List.getElem?_eq_getElem (by omega)) hq
  exact ⟨e1.inB, e2.inB⟩
theorem RegEv.inA {ra rb : List Rg} (h : RegEv A B ra rb) : ∀ r ∈ ra, inT A r.1 ∧ inT A r.2 := by
  intro r hr
  obtain ⟨q, hq⟩ := List.getElem?_of_mem hr
  have hl := (List.getElem?_eq_some_iff.1 hq).1
  have h1 := h.1
  obtain ⟨e1, e2⟩ := h.2 q r _ hq (List.getElem?_eq_getElem (by omega))
  exact ⟨e1.inA, e2.inA⟩
theorem RegEv.left {ra ra' rb : List Rg} (hA : TOk A) (h : RegEv A B ra rb) (h' : RegEv A B ra' rb) : ra = ra' := by
  apply List.ext_getElem?
  intro i
  have l1 := h.1
  have l2 := h'.1
  rcases Nat.lt_or_ge i rb.length with hlt | hge
  · obtain ⟨a1, a2⟩ := h.2 i _ _ (List.getElem?_eq_getElem (by omega)) (List.getElem?_eq_getElem hlt)
    obtain ⟨b1, b2⟩ := h'.2 i _ _ (List.getElem?_eq_getElem (by omega)) (List.getElem?_eq_getElem hlt)
    rw [List.getElem?_eq_getElem (by omega), List.getElem?_eq_getElem (by omega)]
    exact congrArg some (Prod.ext (a1.left hA b1) (a2.left hA b2))
  · rw [List.getElem?_eq_none (by omega), List.getElem?_eq_none (by omega)]

theorem Ev.same_iff (hA : TOk A) (hB : TOk B) {a a' b b' : Int} (h : Ev A B a b) (h' : Ev A B a' b') : a = a' ↔ b = b' :=
  ⟨fun e => by subst e; exact h.right hB h', fun e => by subst e; exact h.left hA h'⟩
theorem Ev.beq (hA : TOk A) (hB : TOk B) {a a' b b' : Int} (h : Ev A B a b) (h' : Ev A B a' b') : (a == a') = (b == b') := by
  rw [Bool.eq_iff_iff, beq_iff_eq, beq_iff_eq]
  exact Ev.same_iff hA hB h h'

theorem hasId_ev (hA : TOk A) (hB : TOk B) {ia ib : Int} (hi : Ev A B ia ib) : ∀ {ra rb : List Rg}, RegEv A B ra rb → hasId ra ia = hasId rb ib
  | [], [], _ => rfl
  | [], _ :: _, h => by have := h.1; simp at this
  | _ :: _, [], h => by have := h.1; simp at this
  | x :: ra, y :: rb, h => by
    obtain ⟨⟨h1, _⟩, h2⟩ := h.tail
    have ih := hasId_ev hA hB hi h2
    unfold hasId at ih ⊢
    rw [List.any_cons, List.any_cons, ih, h1.beq hA hB hi]
theorem valT_ev (hA : TOk A) (hB : TOk B) {ia ib na nb : Int} (hi : Ev A B ia ib) (hn : Ev A B na nb) : ∀ {ra rb : List Rg}, RegEv A B ra rb → Ev A B (valT na ra ia) (valT nb rb ib)
  | [], [], _ => hn
  | [], _ :: _, h => by have := h.1; simp at this
  | _ :: _, [], h => by have := h.1; simp at this
  | x :: ra, y :: rb, h => by
    obtain ⟨⟨h1, h3⟩, h2⟩ := h.tail
    have ih := valT_ev hA hB hi hn h2
    unfold valT at ih ⊢
    have e := h1.beq hA hB hi
    rw [List.find?_cons, List.find?_cons, e]
    cases hb : (y.1 == ib) with
    | true => exact h3
    | false => exact ih

theorem rq_ev {qa qb : List Rq} (h : QEv A B qa qb) (j : Nat) : (rq qa j).1 = (rq qb j).1 ∧ EvL A B (rq qa j).2 (rq qb j).2 := by
  have hl := h.1
  unfold rq
  rcases Nat.lt_or_ge j qb.length with hlt | hge
  · rw [List.getElem?_eq_getElem hlt, List.getElem?_eq_getElem (by omega : j < qa.length)]
    exact h.2 j _ _ (List.getElem?_eq_getElem _) (List.getElem?_eq_getElem _)
  · rw [List.getElem?_eq_none (by omega : qb.length ≤ j), List.getElem?_eq_none (by omega : qa.length ≤ j)]
    exact ⟨rfl, EvL.nil _ _⟩
theorem rq_len {q : List Rq} (h : RqOk q) (j : Nat) : ((rq q j).1 = 71 ∨ (rq q j).1 = 73 → (rq q j).2.length = 2) ∧ ((rq q j).1 = 72 → (rq q j).2.length = 1) := by
  unfold rq
  rcases Nat.lt_or_ge j q.length with hlt | hge
  · rw [List.getElem?_eq_getElem hlt]
    rcases h j _ (List.getElem?_eq_getElem hlt) with e | ⟨e1, e2⟩ | ⟨e1, e2⟩
    · rw [e]; simp
    · show (q[j].1 = 71 ∨ q[j].1 = 73 → q[j].2.length = 2) ∧ (q[j].1 = 72 → q[j].2.length = 1)
      refine ⟨fun _ => e2, fun h => ?_⟩
      omega
    · show (q[j].1 = 71 ∨ q[j].1 = 73 → q[j].2.length = 2) ∧ (q[j].1 = 72 → q[j].2.length = 1)
      refine ⟨fun h => ?_, fun _ => e2⟩
      omega
  · rw [List.getElem?_eq_none hge]; simp
theorem rqId_ev {qa qb : List Rq} (h : QEv A B qa qb) {j : Nat} (hl : 1 ≤ (rq qb j).2.length) : Ev A B (rqId qa j) (rqId qb j) := by
  unfold rqId
  exact (rq_ev h j).2.at_ (by omega)
theorem rqV_ev {qa qb : List Rq} (h : QEv A B qa qb) {j : Nat} (hl : 2 ≤ (rq qb j).2.length) : Ev A B (rqV qa j) (rqV qb j) := by
  unfold rqV
  exact (rq_ev h j).2.at_ (by omega)

theorem metL_ev (hA : TOk A) (hB : TOk B) {qa qb : List Rq} (h : QEv A B qa qb) (hok : RqOk qb) {k : Nat} (hk : 1 ≤ (rq qb k).2.length) : ∀ m, EvL A B (metL qa k m) (metL qb k m)
  | 0 => EvL.nil _ _
  | m + 1 => by
    have ih := metL_ev hA hB h hok hk m
    rw [metL_succ, metL_succ]
    have e1 := (rq_ev h m).1
    by_cases h73 : (rq qb m).1 = 73
    · have hl := (rq_len hok m).1 (.inr h73)
      have e2 := rqId_ev h (j := m) (by omega)
      have e3 := rqId_ev h hk
      have e4 := Ev.same_iff hA hB e2 e3
      by_cases hc : m ≠ k ∧ (rq qb m).1 = 73 ∧ rqId qb m = rqId qb k
      · rw [if_pos hc, if_pos ⟨hc.1, e1.trans hc.2.1, e4.2 hc.2.2⟩]
        exact ih.app (rqV_ev h (by omega))
      · rw [if_neg hc, if_neg fun hh => hc ⟨hh.1, e1.symm.trans hh.2.1, e4.1 hh.2.2⟩]
        exact ih
    · rw [if_neg (fun hh => h73 (e1.symm.trans hh.2.1)), if_neg (fun hh => h73 hh.2.1)]
      exact ih

theorem metT_ev (hA : TOk A) (hB : TOk B) {qa qb : List Rq} (h : QEv A B qa qb) (hok : RqOk qb) {k : Nat} (hk : 1 ≤ (rq qb k).2.length) {na nb : Int} (hn : Ev A B na nb) : Ev A B (metT na qa k) (metT nb qb k) := by
  have hm := metL_ev hA hB h hok hk qb.length
  unfold metT
  rw [h.1]
  have hl := hm.1
  by_cases h1 : (metL qb k qb.length).length = 1
  · rw [if_pos h1, if_pos (by omega)]
    have e1 := List.getLast?_eq_getElem? (l := metL qa k qb.length)
    have e2 := List.getLast?_eq_getElem? (l := metL qb k qb.length)
    rw [e1, e2, hl, h1]
    have := hm.at_ (i := 0) (by omega)
    have z1 : (metL qa k qb.length)[1 - 1]? = some (((metL qa k qb.length)[0]?).getD 0) := by
      rw [show 1 - 1 = 0 from rfl, List.getElem?_eq_getElem (by omega : 0 < (metL qa k qb.length).length)]; rfl
    have z2 : (metL qb k qb.length)[1 - 1]? = some (((metL qb k qb.length)[0]?).getD 0) := by
      rw [show 1 - 1 = 0 from rfl, List.getElem?_eq_getElem (by omega : 0 < (metL qb k qb.length).length)]; rfl
    rw [z1, z2]
    exact this
  · rw [if_neg h1, if_neg (by omega)]
    exact hn

theorem ansT_ev (hA : TOk A) (hB : TOk B) {qa qb : List Rq} (h : QEv A B qa qb) (hok : RqOk qb) {na nb : Int} (hn : Ev A B na nb) {ra rb : List Rg} (hr : RegEv A B ra rb) (k : Nat) :
    RegEv A B (ansT na qa ra k).1 (ansT nb qb rb k).1 ∧ Ev A B (ansT na qa ra k).2 (ansT nb qb rb k).2 := by
  obtain ⟨e1, e2⟩ := rq_ev h k
  obtain ⟨l1, l2⟩ := rq_len hok k
  unfold ansT
  rw [e1]
  by_cases h71 : (rq qb k).1 = 71
  · rw [if_pos h71, if_pos h71]
    have hl := l1 (.inl h71)
    have ei := rqId_ev h (j := k) (by omega)
    have ev := rqV_ev h (j := k) (by omega)
    rw [hasId_ev hA hB ei hr]
    cases hasId rb (rqId qb k) with
    | true => exact ⟨hr, valT_ev hA hB ei hn hr⟩
    | false =>
      have hr' : RegEv A B (ra ++ [(rqId qa k, rqV qa k)]) (rb ++ [(rqId qb k, rqV qb k)]) := hr.app ei ev
      exact ⟨hr', valT_ev hA hB ei hn hr'⟩
  · rw [if_neg h71, if_neg h71]
    by_cases h72 : (rq qb k).1 = 72
    · rw [if_pos h72, if_pos h72]
      have hl := l2 h72
      exact ⟨hr, valT_ev hA hB (rqId_ev h (by omega)) hn hr⟩
    · rw [if_neg h72, if_neg h72]
      by_cases h73 : (rq qb k).1 = 73
      · rw [if_pos h73, if_pos h73]
        have hl := l1 (.inr h73)
        exact ⟨hr, metT_ev hA hB h hok (by omega) hn⟩
      · rw [if_neg h73, if_neg h73]
        exact ⟨hr, hn⟩

theorem doS_ev (hA : TOk A) (hB : TOk B) {qa qb : List Rq} (h : QEv A B qa qb) (hok : RqOk qb) {na nb : Int} (hn : Ev A B na nb) {ra rb : List Rg} (hr : RegEv A B ra rb) : ∀ k, RegEv A B (doS na qa ra k).1 (doS nb qb rb k).1 ∧ EvL A B (doS na qa ra k).2 (doS nb qb rb k).2
  | 0 => ⟨hr, EvL.nil _ _⟩
  | k + 1 => by
    obtain ⟨i1, i2⟩ := doS_ev hA hB h hok hn hr k
    obtain ⟨a1, a2⟩ := ansT_ev hA hB h hok hn i1 k
    exact ⟨a1, i2.app a2⟩

theorem rqOf_ev (hA : TOk A) (hB : TOk B) {a b : Int} (h : Ev A B a b) : (rqOf A a).1 = (rqOf B b).1 ∧ EvL A B (rqOf A a).2 (rqOf B b).2 := by
  obtain ⟨t1, t2, t3⟩ := h.tm
  have ha := h.args hA hB
  unfold rqOf
  rw [t1, t3]
  by_cases h1 : (tmAt B b).kind ≠ 9
  · rw [if_pos h1, if_pos h1]; exact ⟨rfl, EvL.nil _ _⟩
  rw [if_neg h1, if_neg h1]
  by_cases h2 : (tmAt B b).args.length < 2
  · rw [if_pos h2, if_pos h2]; exact ⟨rfl, EvL.nil _ _⟩
  rw [if_neg h2, if_neg h2]
  obtain ⟨z1, z2, z3⟩ := (h.argZ hA hB (by omega)).tm
  rw [z1, z2]
  by_cases h3 : (tmAt B (arg0 (tmAt B b))).kind ≠ 2
  · rw [if_pos h3, if_pos h3]; exact ⟨rfl, EvL.nil _ _⟩
  rw [if_neg h3, if_neg h3]
  have hd := ha.drop 1
  have hdl := hd.1
  unfold rqWord
  rw [hdl]
  by_cases hc : (tmAt B (arg0 (tmAt B b))).n < 71 ∨ 73 < (tmAt B (arg0 (tmAt B b))).n ∨ ((tmAt B b).args.drop 1).length ≠ (if (tmAt B (arg0 (tmAt B b))).n = 72 then 1 else 2)
  · rw [if_pos hc, if_pos hc]; exact ⟨rfl, EvL.nil _ _⟩
  · rw [if_neg hc, if_neg hc]; exact ⟨rfl, hd⟩

theorem doT_ev (hA : TOk A) (hB : TOk B) (hsA : A.length ≤ 900000) (hsB : B.length ≤ 900000) {la lb : List Int} {ra rb : List Rg} (hl : EvL A B la lb) (hr : RegEv A B ra rb) :
    RegEv (wordT A).1 (wordT B).1 (doT A ra la).1 (doT B rb lb).1 ∧ EvL (wordT A).1 (wordT B).1 (doT A ra la).2 (doT B rb lb).2 := by
  obtain ⟨_, _, _, _, ga⟩ := wordT_good (T := A) (by omega)
  obtain ⟨_, _, _, _, gb⟩ := wordT_good (T := B) (by omega)
  have hA' : TOk (wordT A).1 := hA.put _
  have hB' : TOk (wordT B).1 := hB.put _
  obtain ⟨_, _, hw⟩ := Ev.put (k := 2) (n := 0) (EvL.nil A B) (err_word (by omega)) (by omega) (by omega)
  have hl' := hl.mono ga.ext gb.ext
  have hll := hl.1
  have hq : QEv (wordT A).1 (wordT B).1 (la.map (rqOf (wordT A).1)) (lb.map (rqOf (wordT B).1)) := by
    refine ⟨by simp [hll], fun i x y hx hy => ?_⟩
    rw [List.getElem?_map] at hx hy
    cases ea : la[i]? with
    | none => rw [ea] at hx; cases hx
    | some u =>
      cases eb : lb[i]? with
      | none => rw [eb] at hy; cases hy
      | some v =>
        rw [ea] at hx
        rw [eb] at hy
        obtain rfl := Option.some.inj hx
        obtain rfl := Option.some.inj hy
        exact rqOf_ev hA' hB' (hl'.2 i u v ea eb)
  unfold doT
  rw [hll]
  exact doS_ev hA' hB' hq (rqsOk _ _) hw (hr.mono ga.ext gb.ext) lb.length

end Go.Proofs.YtoclhecldmahiaaDoor
