/-
  MixSeen: what the law holds; a round.
-/
import Derived.Test.YtoclhecldmahiaaDoorMyE
import Derived.Test.YtoclhecldmahiaaDoorM6Fns
set_option linter.unusedVariables false
set_option linter.unusedVariables false
set_option linter.unusedSimpArgs false
namespace Go.Proofs.YtoclhecldmahiaaDoor
open Go.Lf Go.RowKit

theorem rnd_congr {T : List Tm} {nw : Int} {secs : List Int} {P P' : Nat → List Int} (h : ∀ s, s < 3 → P s = P' s) : ∀ (d : Nat) {s : Nat} {st : MxS} {l : List Int}, s + d = 3 → rndT T nw secs P d s st l = rndT T nw secs P' d s st l
  | 0, _, _, _, _ => rfl
  | d + 1, s, st, l, hs => by
    show (_, _, _) = (_, _, _)
    rw [h s (by omega), rnd_congr h d (s := s + 1) (by omega)]
theorem round_congr {T : List Tm} {st : MxS} {secs l : List Int} {P P' : Nat → List Int} (h : ∀ s, s < 3 → P s = P' s) : roundT T st secs l P = roundT T st secs l P' := rnd_congr h 3 rfl

theorem At.take {W w : World} {L R : List Asn} (h : At W w (L ++ R)) : At W w L := (h.perm List.perm_append_comm).dropL

/-- what the law has made -/
structure SnIn (T : List Tm) (S P : List Nat) (K : List Int) (d : Int) (X : Nat → Int) (nw r v x0 c : Nat) : Prop where
  srv : SrvIn T 100 S P 3
  on : OnionIn T (toI P) K d X
  tnw : T[nw]? = some ⟨2, 0, []⟩
  tr : T[r]? = some ⟨1, 300, []⟩
  tv : T[v]? = some ⟨1, 400, []⟩
  ex0 : X 0 = x0
  tpay : T[x0]? = some ⟨9, 0, [(c : Int), (r : Int), (v : Int)]⟩
  tc : T[c]? = some ⟨2, 71, []⟩
/-- nothing but the onion, and what is none -/
def Lst (T : List Tm) (X : Nat → Int) (l : List Int) : Prop := ∀ x ∈ l, (∃ (q : Nat) (t : Tm), x = q ∧ T[q]? = some t ∧ t.kind ≠ 7) ∨ x = X 3
def St0 (X : Nat → Int) (r v : Int) (k : Nat) (st : MxS) : Prop := (k = 0 → st.regs = [] ∧ ∀ j, j < 3 → st.seen j = []) ∧ (0 < k → st.regs = [(r, v)] ∧ ∀ j, j < 3 → st.seen j = [X (3 - j)])

section
variable {T T' : List Tm} {S P : List Nat} {K : List Int} {d : Int} {X : Nat → Int} {nw r v x0 c : Nat} {l : List Int} {st : MxS} {k : Nat}

theorem SnIn.mono (hE : Ext T T') (h : SnIn T S P K d X nw r v x0 c) : SnIn T' S P K d X nw r v x0 c :=
  ⟨h.srv.mono hE, h.on.mono hE, hE _ _ h.tnw, hE _ _ h.tr, hE _ _ h.tv, h.ex0, hE _ _ h.tpay, hE _ _ h.tc⟩
theorem Lst.mono (hE : Ext T T') (h : Lst T X l) : Lst T' X l := fun x hx => (h x hx).imp (fun ⟨q, t, e, h1, h2⟩ => ⟨q, t, e, hE _ _ h1, h2⟩) id
theorem Lst.app (h : Lst T X l) {x : Int} (hx : (∃ (q : Nat) (t : Tm), x = q ∧ T[q]? = some t ∧ t.kind ≠ 7) ∨ x = X 3) : Lst T X (l ++ [x]) := fun y hy => by
  rw [List.mem_append, List.mem_singleton] at hy
  rcases hy with hy | rfl
  · exact h y hy
  · exact hx
theorem Lst.inT (h : Lst T X l) (ho : inT T (X 3)) : ∀ x ∈ l, Lf.inT T x := fun x hx => by
  rcases h x hx with ⟨q, t, rfl, h1, _⟩ | rfl
  · exact inT_of h1
  · exact ho
theorem SnIn.facts (hT : TOk T) (h : SnIn T S P K d X nw r v x0 c) : wordT T = (T, (nw : Int), 0) ∧ (rqOf T nw).1 = 0 ∧ (∀ s, s < 3 → (peelT T ((toI S)[s]?.getD 0) nw).2.2 ≠ 0) ∧ (∀ s, s < 3 → peelT T ((toI S)[s]?.getD 0) (X (3 - s)) = (X (2 - s), K[s]?.getD 0, 0)) ∧
    (∀ s, s < 3 → inT T (K[s]?.getD 0)) ∧ rqOf T (X 0) = (71, [(r : Int), (v : Int)]) ∧ (toI S).length = 3 ∧ ∀ x ∈ toI S, inT T x := by
  refine ⟨word_there hT h.tnw, ?_, fun s hs => peel_no h.tnw (by decide), fun s hs => ?_, fun s hs => ?_, ?_, by rw [toI_len, h.srv.sl], fun x hx => ?_⟩
  · unfold rqOf
    rw [tmAt_of h.tnw, if_pos (by decide)]
  · obtain ⟨x, hx, hp, _⟩ := h.srv.peel h.on hs
    have : (toI S)[s]?.getD 0 = x := by unfold toI; rw [List.getElem?_map, hx]; rfl
    rw [this]
    exact hp
  · have := h.on.kl
    exact h.on.kin _ (getD_mem (by omega))
  · rw [h.ex0, rqOf_list h.tpay h.tc (by simp)]
    rfl
  · unfold toI at hx
    obtain ⟨s, hs, rfl⟩ := List.mem_map.1 hx
    obtain ⟨j, hj⟩ := List.getElem?_of_mem hs
    exact inT_of (h.srv.sat j s hj)

/-- what a round comes to -/
theorem sn_round (hT : TOk T) (hl : T.length ≤ 500000) (h : SnIn T S P K d X nw r v x0 c) (hL : Lst T X l) (hk : k = 0 → ∃ rest, l = X 3 :: rest) (hll : l.length ≤ 100) (hst : St0 X r v k st) {Q : Nat → List Int} (hQ : ∀ s, s < 3 → Q s = idsP l.length) :
    Grown T (roundT T st (toI S) l Q).1 3 ∧ St0 X r v (k + 1) (roundT T st (toI S) l Q).2.1 ∧ (0 < k → mixEq (roundT T st (toI S) l Q).2.1 st) ∧ (roundT T st (toI S) l Q).2.2.length = l.length ∧
      (∀ y, y < l.length → (k = 0 ∧ y = 0) ∨ (roundT T st (toI S) l Q).2.2[y]?.getD 0 = nw) ∧ (k = 0 → SealC (roundT T st (toI S) l Q).1 K 3 ((roundT T st (toI S) l Q).2.2[0]?.getD 0) v) := by
  obtain ⟨f1, f2, f3, f4, f5, f6, f7, f8⟩ := h.facts hT
  rw [round_congr (P' := fun _ => idsP l.length) hQ]
  rcases Nat.eq_zero_or_pos k with rfl | hk0
  · obtain ⟨rest, rfl⟩ := hk rfl
    obtain ⟨s1, s2⟩ := hst.1 rfl
    obtain ⟨g, i1, i2, i3, y, i4, i5, i6⟩ := rnd_one (T := T) (secs := toI S) (nw := nw) (n := rest.length) (by omega) (inT_of h.tnw) f1 f2 f3 f4 f5 (inT_of h.tv) f6 3 (s := 0) (st := st) (rest := rest) rfl (fun j _ hj => s2 j hj) s1 rfl fun x hx => by
      refine ⟨fun _ => ?_, fun hh => by omega⟩
      rcases hL x (by simp [hx]) with ⟨q, t, rfl, e1, e2⟩ | rfl
      · exact .inl (peel_no e1 e2)
      · exact .inr rfl
    have e : roundT T st (toI S) (X 3 :: rest) (fun _ => idsP (X 3 :: rest).length) = rndT T nw (toI S) (fun _ => idsP (rest.length + 1)) 3 0 st (X 3 :: rest) := by
      unfold roundT; rw [f1]; rfl
    rw [e, i4]
    refine ⟨g, ⟨fun hh => by omega, fun _ => ⟨i1, fun j hj => i3 j (by omega) hj⟩⟩, fun hh => by omega, by simp, fun y hy => ?_, fun _ => i6⟩
    cases y with
    | zero => exact .inl ⟨rfl, rfl⟩
    | succ y =>
      refine .inr ?_
      rw [List.getElem?_cons_succ]
      exact repl_getD (by simpa using hy)
  · obtain ⟨s1, s2⟩ := hst.2 hk0
    have e := round_none (T := T) (secs := toI S) (nw := nw) (n := l.length) (st := st) f1 f2 f3 rfl fun x hx => by
      rcases hL x hx with ⟨q, t, rfl, e1, e2⟩ | rfl
      · exact .inl (peel_no e1 e2)
      · exact .inr (by rw [s2 0 (by omega)]; simp)
    rw [e]
    exact ⟨(Grown.refl T).up (by omega), ⟨fun hh => by omega, fun _ => ⟨s1, s2⟩⟩, fun _ => ⟨rfl, fun _ _ => rfl⟩, by simp, fun y hy => .inr (repl_getD hy), fun hh => by omega⟩
end

section
variable {W w w' : World} {a stb nx : Addr} {T : List Tm} {S P : List Nat} {K inL out : List Int} {d : Int} {X : Nat → Int} {nw r v x0 c k : Nat} {ag seS keS inS spS sr sr2 oS : Sl} {ss ss2 : Nat → Sl} {st stn : MxS} {Z : List (Sl × List Int)} {again : List Bool}
  {RR : Value → World → Prop} {N2 : Sl → Option Addr → Sl → Int → Int → Int → Sl → Addr → Sl → Int → World → Prop}

/-- the law's own things -/
abbrev snL (stb : Addr) (sr : Sl) (ss : Nat → Sl) (st : MxS) (inS : Sl) (inL : List Int) (keS : Sl) (K : List Int) (seS : Sl) (S : List Nat) : List Asn := pmxL stb sr ss st ++ (ownA inS inL :: ownA keS K :: ownA seS (toI S) :: [])

/-- what the next round wants -/
def SnNext (W : World) (RR : Value → World → Prop) (a stb : Addr) (S P : List Nat) (K : List Int) (d : Int) (X : Nat → Int) (nw r v x0 c k : Nat) (keS seS ag : Sl) (again : List Bool) (m : Nat)
    (N2 : Sl → Option Addr → Sl → Int → Int → Int → Sl → Addr → Sl → Int → World → Prop) : Prop :=
  ∀ (inS : Sl) (inL : List Int) (sr : Sl) (ss : Nat → Sl) (st : MxS) (T : List Tm) (w' : World), At W w' (arT a T :: snL stb sr ss st inS inL keS K seS S) → SnIn T S P K d X nw r v x0 c → Lst T X inL → inL.length ≤ m + 1 → St0 X r v (k + 1) st → T.length ≤ 1000 + 10 * (k + 1) →
    N2 ag (some a) seS nw r v keS stb inS (IntKind.i64.wrap ((k : Int) + 1)) w'

theorem sn_c4 {m : Nat} (hAg : Bools W ag again) (hk : k ≤ again.length) (hal : again.length ≤ 10) (hm : m ≤ 50) (hN : SnNext W RR a stb S P K d X nw r v x0 c k keS seS ag again m N2) (hS : SnIn T S P K d X nw r v x0 c) (hL : Lst T X inL) (hil : inL.length ≤ m) (hst : St0 X r v (k + 1) stn) (hT : T.length ≤ 1000 + 10 * (k + 1))
    (h : At W w (arT a T :: (pmxL nx sr2 ss2 stn ++ snL stb sr ss st inS inL keS K seS S))) : trystlaw24_MixSeen.c4 RR N2 ag (some a) seS nw r v keS stb inS k nx w := by
  unfold trystlaw24_MixSeen.c4
  have hagl : ag.len = again.length := hAg.len
  obtain ⟨wr, h2⟩ := h.set4 6 rfl (sV sr2) (sV (ss2 0)) (sV (ss2 1)) (sV (ss2 2))
  refine ⟨_, _, _, h.s.cell0 1 rfl rfl, _, _, _, h.s.cell 1 rfl 1 rfl, _, _, _, h.s.cell 1 rfl 2 rfl, _, _, _, h.s.cell 1 rfl 3 rfl, wr, ?_⟩
  intro w4
  have h3 := ((((h2.less 7 rfl).less 7 rfl).less 7 rfl).less 7 rfl).less 1 rfl
  have h3 : At W w4 (arT a T :: (mixL sr2 ss2 stn ++ (boxA stb [sV sr2, sV (ss2 0), sV (ss2 1), sV (ss2 2)] :: (ownA inS inL :: ownA keS K :: ownA seS (toI S) :: [])))) := h3
  have h4 : At W w4 (arT a T :: snL stb sr2 ss2 stn inS inL keS K seS S) := h3.perm (List.Perm.cons _ List.perm_middle)
  clear_value w4
  clear h2 h3
  refine cond_d (p := ((k : Nat) : Int) < ((ag.len : Nat) : Int)) (fun hlt => ?_) fun hge => ?_
  · obtain ⟨q, hq, hc⟩ := bools_get (h4.bools hAg) (i := k) (by omega)
    refine ⟨by omega, hlt, q, hq, _, by rw [Int.toNat_natCast]; exact hc, cond_not (fun _ => ?_) fun _ => hN _ _ _ _ _ _ _ h4 hS hL (by omega) hst hT⟩
    unfold trystlaw24_MixSeen.c3
    intro w5
    obtain ⟨s', w6, run, h6⟩ := more_at 6 rfl h4 (nw : Int) (by omega)
    refine ⟨_, _, _, w6, run, ?_⟩
    exact hN _ _ _ _ _ _ _ h6 hS (hL.app (.inl ⟨nw, _, rfl, hS.tnw, by decide⟩)) (by rw [List.length_append]; simpa using hil) hst hT
  · exact hN _ _ _ _ _ _ _ h4 hS hL (by omega) hst hT

theorem sn_c5 {m : Nat} (hAg : Bools W ag again) (hk : k ≤ again.length) (hal : again.length ≤ 10) (hm : m ≤ 50) (hN : SnNext W RR a stb S P K d X nw r v x0 c k keS seS ag again m N2) (hS : SnIn T S P K d X nw r v x0 c) (hL : Lst T X inL) (hil : inL.length ≤ m) (hst : St0 X r v (k + 1) stn) (hT : T.length ≤ 1000 + 10 * (k + 1)) (heq : 0 < k → mixEq stn st) (hs0 : St0 X r v k st)
    (h : At W w (arT a T :: (pmxL nx sr2 ss2 stn ++ snL stb sr ss st inS inL keS K seS S))) : trystlaw24_MixSeen.c5 RR N2 ag (some a) seS nw r v keS stb inS k nx w := by
  have hn1 := hst.2 (by omega)
  unfold trystlaw24_MixSeen.c5
  refine cond_d (p := ((k : Nat) : Int) > 0) (fun hgt => ?_) fun hle => sn_c4 hAg hk hal hm hN hS hL hil hst hT h
  have h01 := hs0.2 (by omega)
  refine ⟨_, _, _, h.s.cell0 1 rfl rfl, _, _, _, h.s.cell 1 rfl 1 rfl, _, _, _, h.s.cell 1 rfl 2 rfl, _, _, _, h.s.cell 1 rfl 3 rfl, _, _, _, h.s.cell0 6 rfl rfl, _, _, _, h.s.cell 6 rfl 1 rfl, _, _, _, h.s.cell 6 rfl 2 rfl, _, _, _, h.s.cell 6 rfl 3 rfl, ?_⟩
  refine (mixeq_at h (sr := sr2) (ss := ss2) (st := stn) (sr' := sr) (ss' := ss) (st' := st)
    ((MixRd.of (R := snL stb sr ss st inS inL keS K seS S) (fun j hj => by rw [hn1.2 j hj]; simp)).up [arT a T, boxA nx [sV sr2, sV (ss2 0), sV (ss2 1), sV (ss2 2)]])
    ((MixRd.of (R := ownA inS inL :: ownA keS K :: ownA seS (toI S) :: []) (fun j hj => by rw [h01.2 j hj]; simp)).up [arT a T, boxA nx [sV sr2, sV (ss2 0), sV (ss2 1), sV (ss2 2)], regA sr2 stn.regs, ownA (ss2 0) (stn.seen 0), ownA (ss2 1) (stn.seen 1), ownA (ss2 2) (stn.seen 2), boxA stb [sV sr, sV (ss 0), sV (ss 1), sV (ss 2)]]) (by rw [hn1.1]; simp)).mono ?_
  rintro _ w2 ⟨rfl, h2⟩
  exact ⟨_, rfl, cond_f' (by rw [decide_eq_true (heq (by omega))]; rfl) (sn_c4 hAg hk hal hm hN hS hL hil hst hT h2)⟩

/-- what comes back is looked at -/
theorem sn_c9 {m : Nat} (hAg : Bools W ag again) (hk : k ≤ again.length) (hal : again.length ≤ 10) (hm : m ≤ 50) (hN : SnNext W RR a stb S P K d X nw r v x0 c k keS seS ag again m N2) (hS : SnIn T S P K d X nw r v x0 c) (hL : Lst T X inL) (hil : inL.length ≤ m) (hst : St0 X r v (k + 1) stn) (hT : T.length ≤ 1000 + 10 * (k + 1)) (heq : 0 < k → mixEq stn st) (hs0 : St0 X r v k st)
    (hol : out.length = inL.length) (ho : ∀ y, y < inL.length → (k = 0 ∧ y = 0) ∨ out[y]?.getD 0 = nw) (hr : k = 0 → SealC T K 3 (out[0]?.getD 0) v)
    (h : At W w (arT a T :: (pmxL nx sr2 ss2 stn ++ (ownA oS out :: snL stb sr ss st inS inL keS K seS S)))) : trystlaw24_MixSeen.c9 RR N2 ag (some a) seS nw r v keS stb inS k nx oS w := by
  unfold trystlaw24_MixSeen.c9 trystlaw24_MixSeen.l6
  refine ⟨fun t w' => ∃ y : Nat, t = y ∧ y ≤ out.length ∧ At W w' (arT a T :: (pmxL nx sr2 ss2 stn ++ (ownA oS out :: snL stb sr ss st inS inL keS K seS S))), fun t _ => out.length - t.toNat, ⟨0, rfl, by omega, h⟩, ?_⟩
  clear h
  rintro _ w1 ⟨y, rfl, hy, h1⟩
  have hos : oS.len = out.length := h1.numLen 6 rfl
  unfold trystlaw24_MixSeen.b6
  refine cond_d (p := ((y : Nat) : Int) < ((oS.len : Nat) : Int)) (fun hlt => ?_) fun hge => ?_
  · have hyo : y < out.length := by omega
    obtain ⟨q, hq, hc⟩ := h1.num 6 rfl (i := y) hyo
    have c8 : out[y]?.getD 0 = nw → trystlaw24_MixSeen.c8 RR N2 (fun again0' a5' s6' none15' r19' v21' keys25' st26' in27' k29' next34' out35' y37' w' => (again0' = ag ∧ a5' = some a ∧ s6' = seS ∧ none15' = (nw : Int) ∧ r19' = (r : Int) ∧ v21' = (v : Int) ∧ keys25' = keS ∧ st26' = stb ∧ in27' = inS ∧ k29' = (k : Int) ∧ next34' = nx ∧ out35' = oS ∧ ∃ y : Nat, y37' = y ∧ y ≤ out.length ∧ At W w' (arT a T :: (pmxL nx sr2 ss2 stn ++ (ownA oS out :: snL stb sr ss st inS inL keS K seS S)))) ∧ out.length - y37'.toNat < out.length - ((y : Nat) : Int).toNat) ag (some a) seS nw r v keS stb inS k nx oS y w1 := by
      intro he
      unfold trystlaw24_MixSeen.c8
      rw [List.getElem?_eq_getElem hyo, Option.getD_some] at he
      refine ⟨by omega, hlt, q, hq, _, by rw [Int.toNat_natCast]; exact hc, cond_n (fun hne => absurd he hne) fun _ => ?_⟩
      dsimp only
      rw [inc (by omega)]
      exact ⟨⟨rfl, rfl, rfl, rfl, rfl, rfl, rfl, rfl, rfl, rfl, rfl, rfl, y + 1, rfl, by omega, h1⟩, by omega⟩
    have hoy := ho y (by omega)
    refine cond_e (fun hk0 => cond_e (fun hy0 => ?_) fun hy0 => c8 (hoy.elim (fun hh => absurd (by rw [hh.2]; rfl) hy0) id)) fun hk0 => c8 (hoy.elim (fun hh => absurd (by rw [hh.1]; rfl) hk0) id)
    have hk0 : k = 0 := by omega
    have hy0 : y = 0 := by omega
    subst hy0
    have hrd := (hr hk0).read hS.on.kl hS.on.kin
    unfold trystlaw24_MixSeen.c7
    have hkl := hS.on.kl
    have e0 : out[0]?.getD 0 = out[0] := by rw [List.getElem?_eq_getElem hyo]; rfl
    rw [e0] at hrd
    refine ⟨by omega, hlt, q, hq, _, hc, (read_at (T := T) h1 (s := keS) (keys := K) (by omega) (out[0]) (rowsI 12 rfl (by omega))).mono ?_⟩
    rintro _ w2 ⟨rfl, h2⟩
    rw [hrd]
    refine ⟨_, _, rfl, cond_n (fun hne => absurd rfl hne) fun _ => cond_n (fun hne => absurd rfl hne) fun _ => ?_⟩
    dsimp only
    exact ⟨⟨rfl, rfl, rfl, rfl, rfl, rfl, rfl, rfl, rfl, rfl, rfl, rfl, 1, rfl, by omega, h2⟩, by show out.length - (1 : Int).toNat < out.length - (0 : Int).toNat; simp; omega⟩
  · have h2 : At W w1 (arT a T :: (pmxL nx sr2 ss2 stn ++ snL stb sr ss st inS inL keS K seS S)) := h1.less 6 rfl
    exact sn_c5 hAg hk hal hm hN hS hL hil hst hT heq hs0 h2
end

end Go.Proofs.YtoclhecldmahiaaDoor

/-
  MixSeen.
-/
set_option linter.unusedVariables false
set_option linter.unusedSimpArgs false
namespace Go.Proofs.YtoclhecldmahiaaDoor
open Go.Lf Go.RowKit

theorem rowP_of (Z : List (Sl × List Int)) (k : Nat) : rowP Z k = ((rowsP Z)[k]?).getD [] := by
  unfold rowP rowsP
  rw [List.getElem?_map]
  cases Z[k]? <;> rfl
theorem wrong_ok {T : List Tm} {st : MxS} {secs l : List Int} {Z : List (Sl × List Int)} (h1 : secs.length = 3) (ha : allIn T st secs l) (hZ : Z.length = 3) (h3 : ∀ k, k < 3 → permOk (rowP Z k) l.length) (h5 : l.length ≤ 100) : wrongT T st secs l (rowsP Z) = 0 := by
  have hp : ∀ p ∈ rowsP Z, permOk p l.length := by
    intro p hp
    obtain ⟨k, hk⟩ := List.getElem?_of_mem hp
    have hlt := (List.getElem?_eq_some_iff.1 hk).1
    have hl : (rowsP Z).length = 3 := by simp [rowsP, hZ]
    have := h3 k (by omega)
    rw [rowP_of, hk] at this
    exact this
  rw [wrongT_B (l := l) h1 rfl ha]
  unfold wrongB
  rw [if_neg (by have : (rowsP Z).length = 3 := by simp [rowsP, hZ]
                 omega), if_neg (fun hh => hh hp)]

section
variable {W w w' : World} {a stb nx : Addr} {T : List Tm} {S P : List Nat} {K inL out : List Int} {d : Int} {X : Nat → Int} {nw r v x0 c k : Nat} {ag seS keS inS spS sr sr2 oS : Sl} {ss ss2 : Nat → Sl} {st stn : MxS} {Z : List (Sl × List Int)} {again : List Bool}
  {RR : Value → World → Prop} {N2 : Sl → Option Addr → Sl → Int → Int → Int → Sl → Addr → Sl → Int → World → Prop}

/-- the round -/
theorem sn_c10 {m : Nat} (hAg : Bools W ag again) (hk : k ≤ again.length) (hal : again.length ≤ 10) (hm : m ≤ 50) (hN : SnNext W RR a stb S P K d X nw r v x0 c k keS seS ag again m N2) (hS : SnIn T S P K d X nw r v x0 c) (hL : Lst T X inL) (hil : inL.length ≤ m) (h0 : k = 0 → ∃ rest, inL = X 3 :: rest) (hst : St0 X r v k st) (hT : T.length ≤ 1000 + 10 * k)
    (hZ : rowsP Z = List.replicate 3 (idsP inL.length)) (h : At W w (arT a T :: (snL stb sr ss st inS inL keS K seS S ++ (rowsL spS Z ++ [])))) : trystlaw24_MixSeen.c10 RR N2 ag (some a) seS nw r v keS stb inS k spS w := by
  have hok : TOk T := h.ok
  have hZ3 : Z.length = 3 := by
    have := congrArg List.length hZ
    simpa [rowsP] using this
  have hrow : ∀ j, j < 3 → rowP Z j = idsP inL.length := fun j hj => by
    rw [rowP_of, hZ, List.getElem?_replicate, if_pos hj]; rfl
  have hsl : ∀ j, j < 3 → (st.seen j).length ≤ 1 := fun j hj => by
    rcases Nat.eq_zero_or_pos k with h | h
    · rw [(hst.1 h).2 j hj]; simp
    · rw [(hst.2 h).2 j hj]; simp
  have hrl : st.regs.length ≤ 1 := by
    rcases Nat.eq_zero_or_pos k with h | h
    · rw [(hst.1 h).1]; simp
    · rw [(hst.2 h).1]; simp
  have hxin := hS.on.xin
  have hin := hL.inT (hxin 3 (by omega))
  obtain ⟨_, _, _, _, _, _, f7, f8⟩ := hS.facts hok
  have hall : allIn T st (toI S) inL := by
    refine ⟨fun g hg => ?_, f8, hin, fun j hj x hx => ?_⟩
    · rcases Nat.eq_zero_or_pos k with h | h
      · rw [(hst.1 h).1] at hg; cases hg
      · rw [(hst.2 h).1, List.mem_singleton] at hg
        rw [hg]
        exact ⟨inT_of hS.tr, inT_of hS.tv⟩
    · rcases Nat.eq_zero_or_pos k with h | h
      · rw [(hst.1 h).2 j hj] at hx; cases hx
      · rw [(hst.2 h).2 j hj, List.mem_singleton] at hx
        rw [hx]
        exact hxin _ (by omega)
  have hw : wrongT T st (toI S) inL (rowsP Z) = 0 := wrong_ok f7 hall hZ3 (fun j hj => by rw [hrow j hj]; exact idsP_ok _) (by omega)
  obtain ⟨rg, rst, req, rlen, rout, rseal⟩ := sn_round hok (by omega) hS hL h0 (by omega) hst (Q := rowP Z) hrow
  have rgl := rg.len
  unfold trystlaw24_MixSeen.c10
  refine ⟨_, _, _, h.s.cell0 1 rfl rfl, _, _, _, h.s.cell 1 rfl 1 rfl, _, _, _, h.s.cell 1 rfl 2 rfl, _, _, _, h.s.cell 1 rfl 3 rfl, ?_⟩
  have hrd : MixRd W (snL stb sr ss st inS inL keS K seS S ++ (rowsL spS Z ++ [])) sr ss st := (MixRd.of (R := ownA inS inL :: ownA keS K :: ownA seS (toI S) :: (rowsL spS Z ++ [])) (fun j hj => by have := hsl j hj; omega)).up [boxA stb [sV sr, sV (ss 0), sV (ss 1), sV (ss 2)]]
  refine (mround_at (T := T) h (sr := sr) (ss := ss) (st := st) (sec := seS) (secs := toI S) (sl := inS) (l := inL) (sp := spS) (Z := Z) (by omega) (fun j hj => by have := hsl j hj; omega) (by omega) hrd.regs (fun hh => (hrd.regs [_] w h).none hh) hrd.seen (rowsI 7 rfl (by omega)) (rowsI 5 rfl (by omega)) (fun L w' hw => by
    have hw2 : At W w' ((L ++ snL stb sr ss st inS inL keS K seS S) ++ (rowsL spS Z ++ [])) := by rw [List.append_assoc]; exact hw
    refine rowsRd (fun z hz => ?_) _ w' hw2
    obtain ⟨j, hj⟩ := List.getElem?_of_mem hz
    have hjl := (List.getElem?_eq_some_iff.1 hj).1
    have := hrow j (by omega)
    unfold rowP at this
    rw [hj] at this
    have e : z.2 = idsP inL.length := this
    rw [e, (idsP_ok _).1]
    omega)).mono ?_
  rintro _ w7 ⟨sr2, so, ss2, rfl, good, _⟩
  have h7 := good hw
  rw [hw]
  refine ⟨_, _, _, _, _, _, _, _, _, _, _, _, _, _, _, _, rfl, ?_⟩
  intro w8
  generalize hT2 : (roundT T st (toI S) inL (rowP Z)).1 = T2 at h7 rg rgl rseal
  generalize (roundT T st (toI S) inL (rowP Z)).2.1 = stn at h7 rst req
  generalize (roundT T st (toI S) inL (rowP Z)).2.2 = out at h7 rlen rout rseal
  obtain ⟨wr, h8⟩ := h7.tmp 127 (zs := [.slice none 0 0, .slice none 0 0, .slice none 0 0, .slice none 0 0]) (cs := [sV sr2, sV (ss2 0), sV (ss2 1), sV (ss2 2)]) rfl
  refine ⟨wr, ?_⟩
  intro w9
  have h9 : At W w9 ((arT a T2 :: (pmxL (newA w7) sr2 ss2 stn ++ (ownA so out :: snL stb sr ss st inS inL keS K seS S))) ++ (rowsL spS Z ++ [])) := h8.swap
  have h9 := h9.take
  clear_value w9
  generalize newA w7 = nx at h9 ⊢
  have hn := rst.2 (by omega)
  have hsol : so.len = out.length := h9.numLen 6 rfl
  have hinl : inS.len = inL.length := h9.numLen 12 rfl
  have hse0 : (ss2 0).len = 1 := by rw [h9.numLen 3 rfl, hn.2 0 (by omega)]; rfl
  have hrg : sr2.len = 1 := by have := (h9.s.rowLen 2 rfl).1; rw [hn.1] at this; exact this
  have hregs : Regs w9 sr2 [((r : Int), (v : Int))] := by have := h9.regs 2 rfl; rw [hn.1] at this; exact this
  obtain ⟨q, hq, c1, c2⟩ := hregs.cell 0 _ rfl
  have c0 : w9.cell? nx = some (sV sr2) := h9.s.cell0 1 rfl rfl
  refine cond_n (fun hne => absurd rfl hne) fun _ => cond_n (fun hne => absurd (by rw [hsol, hinl, rlen]) hne) fun _ => ⟨by omega, by omega, _, _, _, (show w9.cell? ((nx.add 1).add 0) = some (sV (ss2 0)) from by rw [add_add]; exact h9.s.cell 1 rfl 1 rfl), cond_n (fun hne => absurd (by rw [hse0]; rfl) hne) fun _ => ⟨_, _, _, c0, cond_n (fun hne => absurd (by rw [hrg]; rfl) hne) fun _ => ⟨_, _, _, c0, by omega, by omega, q, hq, _, c1, cond_n (fun hne => absurd rfl hne) fun _ => ⟨_, _, _, c0, by omega, by omega, q, hq, _, c2, cond_n (fun hne => absurd rfl hne) fun _ => ?_⟩⟩⟩⟩
  exact sn_c9 hAg hk hal hm hN (hS.mono rg.ext) (hL.mono rg.ext) hil rst (by omega) req hst rlen rout rseal h9

/-- the permutations -/
theorem sn_l11 {m : Nat} (hAg : Bools W ag again) (hk : k ≤ again.length) (hal : again.length ≤ 10) (hm : m ≤ 50) (hN : SnNext W RR a stb S P K d X nw r v x0 c k keS seS ag again m N2) (hS : SnIn T S P K d X nw r v x0 c) (hL : Lst T X inL) (hil : inL.length ≤ m) (h0 : k = 0 → ∃ rest, inL = X 3 :: rest) (hst : St0 X r v k st) (hT : T.length ≤ 1000 + 10 * k)
    (h : At W w (arT a T :: snL stb sr ss st inS inL keS K seS S)) : trystlaw24_MixSeen.l11 RR N2 ag (some a) seS nw r v keS stb inS k ⟨none, 0, 0⟩ 0 w := by
  unfold trystlaw24_MixSeen.l11
  refine ⟨fun t w' => ∃ (i : Nat) (Z : List (Sl × List Int)), t.2 = i ∧ i ≤ 3 ∧ rowsP Z = List.replicate i (idsP inL.length) ∧ At W w' (arT a T :: (snL stb sr ss st inS inL keS K seS S ++ (rowsL t.1 Z ++ []))), fun t _ => 3 - t.2.toNat, ⟨0, [], rfl, by omega, rfl, ?_⟩, ?_⟩
  · have := (h.rowsNil).perm (List.perm_append_comm (l₁ := rowsL ⟨none, 0, 0⟩ []))
    exact this
  clear h
  rintro ⟨sp, _⟩ w1 ⟨i, Z, rfl, hi, hZ, h1⟩
  show trystlaw24_MixSeen.b11 _ _ _ _ _ _ _ _ _ _ _ _ _ sp (i : Int) w1
  have h1 : At W w1 (arT a T :: (snL stb sr ss st inS inL keS K seS S ++ (rowsL sp Z ++ []))) := h1
  have hZl : Z.length = i := by
    have := congrArg List.length hZ
    simpa [rowsP] using this
  have hinl : inS.len = inL.length := h1.numLen 6 rfl
  unfold trystlaw24_MixSeen.b11
  refine cond_d (p := ((i : Nat) : Int) < 3) (fun hlt => ?_) fun hge => ?_
  · unfold trystlaw24_MixSeen.l13
    refine ⟨fun t w' => ∃ j : Nat, t.2 = j ∧ j ≤ inL.length ∧ At W w' (ownA t.1 (idsP j) :: arT a T :: (snL stb sr ss st inS inL keS K seS S ++ (rowsL sp Z ++ []))), fun t _ => inL.length - t.2.toNat, ⟨0, rfl, by omega, h1.nil⟩, ?_⟩
    clear h1
    rintro ⟨l, _⟩ w2 ⟨j, rfl, hj, h2⟩
    show trystlaw24_MixSeen.b13 _ _ _ _ _ _ _ _ _ _ _ _ _ _ _ _ l (j : Int) w2
    have h2 : At W w2 (ownA l (idsP j) :: arT a T :: (snL stb sr ss st inS inL keS K seS S ++ (rowsL sp Z ++ []))) := h2
    unfold trystlaw24_MixSeen.b13
    refine cond_d (p := ((j : Nat) : Int) < ((inS.len : Nat) : Int)) (fun hlt2 => ?_) fun hge2 => ?_
    · intro w3
      obtain ⟨s', w4, run, h4⟩ := more_at 0 rfl h2 (j : Int) (by rw [(idsP_ok j).1]; omega)
      refine ⟨_, _, _, w4, run, ?_⟩
      dsimp only
      rw [inc (by omega)]
      have e : idsP (j + 1) = idsP j ++ [(j : Int)] := by unfold idsP; rw [List.range_succ, List.map_append]; rfl
      refine ⟨⟨rfl, rfl, rfl, rfl, rfl, rfl, rfl, rfl, rfl, rfl, rfl, rfl, j + 1, rfl, by omega, ?_⟩, by (try dsimp only); omega⟩
      rw [e]
      exact h4
    · have hjl : j = inL.length := by omega
      subst hjl
      unfold trystlaw24_MixSeen.c12
      intro w3
      obtain ⟨s3, w4, run, h3⟩ := rows_more 10 rfl h2 l (idsP inL.length) (by omega)
      refine ⟨_, _, _, w4, run, ?_⟩
      dsimp only
      rw [inc (by omega)]
      refine ⟨⟨rfl, rfl, rfl, rfl, rfl, rfl, rfl, rfl, rfl, rfl, i + 1, Z ++ [(l, idsP inL.length)], rfl, by omega, ?_, ?_⟩, by (try dsimp only); omega⟩
      · rw [List.replicate_succ', ← hZ]
        simp [rowsP]
      · have h5 : At W w4 (ownA l (idsP inL.length) :: ((arT a T :: snL stb sr ss st inS inL keS K seS S) ++ (rowsA s3 (Z ++ [(l, idsP inL.length)]) :: ((Z.map fun z => ownA z.1 z.2) ++ [])))) := h3
        exact (h5.perm List.perm_middle.symm).perm (List.Perm.append_left _ rowsL_perm)
  · have hi3 : i = 3 := by omega
    subst hi3
    exact sn_c10 hAg hk hal hm hN hS hL hil h0 hst hT hZ h1

/-- round by round -/
theorem sn_c14 (hRR : ∀ w, Below W.heap.size W w → RR (.bool true) w) (hAg : Bools W ag again) (hal : again.length ≤ 10) (hS : SnIn T S P K d X nw r v x0 c) (hL : Lst T X inL) (hil : inL.length ≤ 11) (h0 : ∃ rest, inL = X 3 :: rest) (hst : St0 X r v 0 st) (hT : T.length ≤ 1000)
    (h : At W w (arT a T :: snL stb sr ss st inS inL keS K seS S)) : trystlaw24_MixSeen.c14 RR ag (some a) seS nw r v keS stb inS w := by
  have hagl : ag.len = again.length := hAg.len
  unfold trystlaw24_MixSeen.c14 trystlaw24_MixSeen.l2
  refine ⟨fun t w' => ∃ (k : Nat) (inL : List Int) (sr : Sl) (ss : Nat → Sl) (st : MxS) (T : List Tm), t.2 = k ∧ k ≤ again.length + 1 ∧ At W w' (arT a T :: snL stb sr ss st t.1 inL keS K seS S) ∧ SnIn T S P K d X nw r v x0 c ∧ Lst T X inL ∧ inL.length ≤ 11 + k ∧ (k = 0 → ∃ rest, inL = X 3 :: rest) ∧ St0 X r v k st ∧ T.length ≤ 1000 + 10 * k, fun t _ => again.length + 1 - t.2.toNat,
    ⟨0, inL, sr, ss, st, T, rfl, by omega, h, hS, hL, hil, fun _ => h0, hst, hT⟩, ?_⟩
  clear h hS hL hil h0 hst hT
  rintro ⟨inS, _⟩ w1 ⟨k, inL, sr, ss, st, T, rfl, hk, h1, hS, hL, hil, h0, hst, hT⟩
  show trystlaw24_MixSeen.b2 _ _ _ _ _ _ _ _ _ _ inS (k : Int) w1
  unfold trystlaw24_MixSeen.b2
  refine cond_d (p := ((k : Nat) : Int) ≤ ((ag.len : Nat) : Int)) (fun hle => ?_) fun hgt => ?_
  · refine sn_l11 hAg (by omega) hal (m := 11 + k) (by omega) ?_ hS hL hil h0 hst hT h1
    intro inS2 inL2 sr2 ss2 st2 T2 w2 h2 hS2 hL2 hil2 hst2 hT2
    rw [inc (by omega)]
    exact ⟨⟨rfl, rfl, rfl, rfl, rfl, rfl, rfl, rfl, k + 1, inL2, sr2, ss2, st2, T2, rfl, by omega, h2, hS2, hL2, by omega, fun hh => by omega, hst2, hT2⟩, by (try dsimp only); omega⟩
  · unfold trystlaw24_MixSeen.c1
    refine (wakes24 h1).mono ?_
    rintro _ w2 ⟨rfl, h2⟩
    exact ⟨_, rfl, hRR _ h2.b⟩
end

end Go.Proofs.YtoclhecldmahiaaDoor

/-
  MixSeen: what is made; the law.
-/
set_option linter.unusedVariables false
set_option linter.unusedSimpArgs false
namespace Go.Proofs.YtoclhecldmahiaaDoor
open Go.Lf Go.RowKit

section
variable {W w w' : World} {a stb : Addr} {T : List Tm} {S P : List Nat} {K inL : List Int} {d : Nat} {X : Nat → Int} {nw r v x0 c k : Nat} {ag js seS puS keS inS sr : Sl} {ss : Nat → Sl} {st : MxS} {again : List Bool} {junk : List Int} {RR : Value → World → Prop}

/-- what else comes -/
theorem sn_l15 (hRR : ∀ w, Below W.heap.size W w → RR (.bool true) w) (hAg : Bools W ag again) (hal : again.length ≤ 10) (hJ : Ints .i64 W js junk) (hjl : junk.length ≤ 10) (hd : T[d]? = some ⟨1, 200, []⟩) (hS : SnIn T S P K d X nw r v x0 c) (hst : St0 X r v 0 st) (hT : T.length ≤ 1000)
    (h : At W w (arT a T :: snL stb sr ss st inS [X 3] keS K seS S)) : trystlaw24_MixSeen.l15 RR ag js (some a) seS nw d r v x0 (X 3) keS stb inS 0 w := by
  have hjsl : js.len = junk.length := hJ.len
  have hsl := hS.srv.sl
  unfold trystlaw24_MixSeen.l15
  refine ⟨fun t w' => ∃ (k : Nat) (rest : List Int), t.2 = k ∧ k ≤ junk.length ∧ rest.length = k ∧ Lst T X (X 3 :: rest) ∧ At W w' (arT a T :: snL stb sr ss st t.1 (X 3 :: rest) keS K seS S), fun t _ => junk.length - t.2.toNat, ⟨0, [], rfl, by omega, rfl, fun x hx => by rw [List.mem_singleton] at hx; exact .inr hx, h⟩, ?_⟩
  clear h
  rintro ⟨inS, _⟩ w1 ⟨k, rest, rfl, hk, hrl, hL, h1⟩
  show trystlaw24_MixSeen.b15 _ _ _ _ _ _ _ _ _ _ _ _ _ _ inS (k : Int) w1
  have h1 : At W w1 (arT a T :: snL stb sr ss st inS (X 3 :: rest) keS K seS S) := h1
  unfold trystlaw24_MixSeen.b15
  refine cond_d (p := ((k : Nat) : Int) < ((js.len : Nat) : Int)) (fun hlt => ?_) fun hge => ?_
  · have hd1 := h1.drew
    obtain ⟨q, hq, hc⟩ := hd1.num 8 rfl (i := 0) (by rw [toI_len]; omega)
    have hsel := hd1.numLen 8 rfl
    obtain ⟨qj, hqj, hcj⟩ := (hd1.ints hJ).get (i := (k : Int)) (by omega) (by omega)
    generalize hx0 : (toI S)[0]'(by rw [toI_len]; omega) = s0 at hc
    generalize hxj : junk[((k : Nat) : Int).toNat]?.getD 0 = xj at hcj
    have hs0 : ∃ q : Nat, s0 = q ∧ T[q]? = some ⟨1, ((100 + 0 : Nat) : Int), []⟩ := by
      refine ⟨S[0]'(by omega), ?_, hS.srv.sat 0 _ (List.getElem?_eq_getElem (by omega))⟩
      rw [← hx0]
      simp [toI]
    rw [toI_len] at hsel
    refine ⟨fun y => y.cell? (q.add 0) = some (.int .i64 s0) ∧ y.cell? (qj.add ((k : Nat) : Int).toNat) = some (.int .i64 xj), ⟨hc, hcj⟩, by omega, by omega, q, hq, _, fun y hy => hy.1, by omega, hlt, qj, hqj, _, fun y hy => hy.2, by omega, ?_⟩
    intro w14
    have h2 := hd1.row [(nw : Int), (d : Int), (r : Int), (x0 : Int), s0, X 3] (by simp)
    have h2 : At W w14 (ownA ⟨some (newA w1.drew), 6, 6⟩ [(nw : Int), (d : Int), (r : Int), (x0 : Int), s0, X 3] :: arT a T :: snL stb sr ss st inS (X 3 :: rest) keS K seS S) := h2
    clear_value w14
    generalize newA w1.drew = ja at h2 ⊢
    obtain ⟨q', hq', hc'⟩ := h2.num 9 rfl (i := 0) (by rw [toI_len]; omega)
    rw [hq] at hq'
    obtain rfl := Option.some.inj hq'
    rw [hx0] at hc'
    obtain ⟨qj', hqj', hcj'⟩ := (h2.ints hJ).get (i := (k : Int)) (by omega) (by omega)
    rw [hqj] at hqj'
    obtain rfl := Option.some.inj hqj'
    rw [hxj] at hcj'
    obtain ⟨u1, u2, _⟩ := umod xj (n := 6) (by omega) (by omega)
    have e6 : IntKind.u64.wrap ((6 : Nat) : Int) = 6 := by decide
    rw [e6] at u1 u2
    generalize IntKind.i64.wrap (Int.tmod (IntKind.u64.wrap xj) 6) = mm at u1 u2 ⊢
    obtain ⟨qa, hqa, hca⟩ := h2.num 0 rfl (i := mm.toNat) (by simp; omega)
    have eix : ixOff mm.toNat 1 = mm.toNat := rfl
    generalize hy : ([(nw : Int), (d : Int), (r : Int), (x0 : Int), s0, X 3] : List Int)[mm.toNat]'(by simp; omega) = y at hca
    have hgood : (∃ (q : Nat) (t : Tm), y = q ∧ T[q]? = some t ∧ t.kind ≠ 7) ∨ y = X 3 := by
      have hy2 : ([(nw : Int), (d : Int), (r : Int), (x0 : Int), s0, X 3] : List Int)[mm.toNat]? = some y := by rw [← hy]; exact List.getElem?_eq_getElem _
      have hcase : mm.toNat = 0 ∨ mm.toNat = 1 ∨ mm.toNat = 2 ∨ mm.toNat = 3 ∨ mm.toNat = 4 ∨ mm.toNat = 5 := by omega
      rcases hcase with e | e | e | e | e | e <;> rw [e] at hy2
      · obtain rfl := Option.some.inj hy2; exact .inl ⟨nw, _, rfl, hS.tnw, by decide⟩
      · obtain rfl := Option.some.inj hy2; exact .inl ⟨d, _, rfl, hd, by decide⟩
      · obtain rfl := Option.some.inj hy2; exact .inl ⟨r, _, rfl, hS.tr, by decide⟩
      · obtain rfl := Option.some.inj hy2; exact .inl ⟨x0, _, rfl, hS.tpay, by simp⟩
      · obtain rfl := Option.some.inj hy2
        obtain ⟨q, e1, e2⟩ := hs0
        exact .inl ⟨q, _, e1, e2, by decide⟩
      · obtain rfl := Option.some.inj hy2; exact .inr rfl
    refine ⟨fun u => (u.cell? (q.add 0) = some (.int .i64 s0) ∧ u.cell? (qj.add ((k : Nat) : Int).toNat) = some (.int .i64 xj)) ∧ u.cell? (qa.add mm.toNat) = some (.int .i64 y), fun u hu => hu.1, ⟨⟨hc', hcj'⟩, hca⟩, u1, by omega, qa, hqa, _, fun u hu => by rw [eix]; exact hu.2, ?_⟩
    intro w15
    obtain ⟨s', w16, run, h3⟩ := more_at 7 rfl h2 y (by simp; omega)
    refine ⟨_, _, _, w16, run, ?_⟩
    dsimp only
    rw [inc (by omega)]
    have h3 : At W w16 (arT a T :: snL stb sr ss st s' (X 3 :: (rest ++ [y])) keS K seS S) := h3.drop
    exact ⟨⟨rfl, rfl, rfl, rfl, rfl, rfl, rfl, rfl, rfl, rfl, rfl, rfl, k + 1, rest ++ [y], rfl, by omega, by simp [hrl], hL.app hgood, h3⟩, by (try dsimp only); omega⟩
  · exact sn_c14 hRR hAg hal hS hL (by simp; omega) ⟨rest, rfl⟩ hst hT h1

theorem sn_c17 (hRR : ∀ w, Below W.heap.size W w → RR (.bool true) w) (hAg : Bools W ag again) (hal : again.length ≤ 10) (hJ : Ints .i64 W js junk) (hjl : junk.length ≤ 10) (hs : SrvIn T 100 S P 3) (hT : T.length ≤ 6)
    (h : At W w [ownA seS (toI S), ownA puS (toI P), arT a T]) : trystlaw24_MixSeen.c17 RR ag js (some a) seS puS w := by
  unfold trystlaw24_MixSeen.c17
  refine (mk0 2 71 (h.front 2 rfl) (by omega)).mono ?_
  rintro _ w1 ⟨rfl, h1⟩
  obtain ⟨c, c1, c2, c3, cg⟩ := put_plain' (T := T) (k := 2) (n := 71) (.inr rfl) (by omega) (by omega) (by omega)
  have cgl := cg.len
  rw [c1, c2]
  generalize (put T ⟨2, 71, []⟩).1 = T1 at h1 c3 cg cgl
  refine ⟨_, _, rfl, (mk0 2 0 h1 (by omega)).mono ?_⟩
  rintro _ w2 ⟨rfl, h2⟩
  obtain ⟨nw, n1, n2, n3, ng⟩ := put_plain' (T := T1) (k := 2) (n := 0) (.inr rfl) (by omega) (by omega) (by omega)
  have ngl := ng.len
  rw [n1, n2]
  generalize (put T1 ⟨2, 0, []⟩).1 = T2 at h2 n3 ng ngl
  refine ⟨_, _, rfl, (mk0 1 200 h2 (by omega)).mono ?_⟩
  rintro _ w3 ⟨rfl, h3⟩
  obtain ⟨d, d1, d2, d3, dg⟩ := put_plain' (T := T2) (k := 1) (n := 200) (.inl rfl) (by omega) (by omega) (by omega)
  have dgl := dg.len
  rw [d1, d2]
  generalize (put T2 ⟨1, 200, []⟩).1 = T3 at h3 d3 dg dgl
  refine ⟨_, _, rfl, (mk0 1 300 h3 (by omega)).mono ?_⟩
  rintro _ w4 ⟨rfl, h4⟩
  obtain ⟨r, r1, r2, r3, rg⟩ := put_plain' (T := T3) (k := 1) (n := 300) (.inl rfl) (by omega) (by omega) (by omega)
  have rgl := rg.len
  rw [r1, r2]
  generalize (put T3 ⟨1, 300, []⟩).1 = T4 at h4 r3 rg rgl
  refine ⟨_, _, rfl, (mk0 1 400 h4 (by omega)).mono ?_⟩
  rintro _ w5 ⟨rfl, h5⟩
  obtain ⟨v, v1, v2, v3, vg⟩ := put_plain' (T := T4) (k := 1) (n := 400) (.inl rfl) (by omega) (by omega) (by omega)
  have vgl := vg.len
  rw [v1, v2]
  generalize (put T4 ⟨1, 400, []⟩).1 = T5 at h5 v3 vg vgl
  refine ⟨_, _, rfl, cond_n (fun h => absurd rfl h) fun _ => cond_n (fun h => absurd rfl h) fun _ => cond_n (fun h => absurd rfl h) fun _ => cond_n (fun h => absurd rfl h) fun _ => cond_n (fun h => absurd rfl h) fun _ => ?_⟩
  have c5 := vg.ext _ _ (rg.ext _ _ (dg.ext _ _ (ng.ext _ _ c3)))
  have n5 := vg.ext _ _ (rg.ext _ _ (dg.ext _ _ n3))
  have d5 := vg.ext _ _ (rg.ext _ _ d3)
  have r5 := vg.ext _ _ r3
  have hs5 := hs.mono (cg.ext.trans (ng.ext.trans (dg.ext.trans (rg.ext.trans vg.ext))))
  have h5 : At W w5 [arT a T5, ownA seS (toI S), ownA puS (toI P)] := h5
  unfold trystlaw24_MixSeen.c16
  intro w6
  refine (mk 9 0 [(c : Int), (r : Int), (v : Int)] h5 (by omega) (by simp)).mono ?_
  rintro _ w7 ⟨rfl, h7⟩
  obtain ⟨x0, x1, x2, x3, xg⟩ := put_list (T := T5) (xs := [(c : Int), (r : Int), (v : Int)]) (by simp) (by simpa using ⟨inT_of c5, inT_of r5, inT_of v3⟩) (by omega)
  have xgl := xg.len
  rw [x1, x2]
  generalize (put T5 ⟨9, 0, [(c : Int), (r : Int), (v : Int)]⟩).1 = T6 at h7 x3 xg xgl
  refine ⟨_, _, rfl, cond_n (fun h => absurd rfl h) fun _ => ?_⟩
  have hs6 := hs5.mono xg.ext
  obtain ⟨pl, pk⟩ := hs6.pubs
  have he : wrapErr T6 (toI P) d x0 = 0 := wrapErr0.2 ⟨pl, fun z hz => (pk z hz).1, xg.ext.inT (inT_of d5), inT_of x3, fun z hz => (pk z hz).2⟩
  refine (wrap_at h7 (sp := puS) (pubs := toI P) (by omega) d x0 (by omega) (rowsI 1 rfl (by omega))).mono ?_
  rintro _ w8 ⟨sk, rfl, h8⟩
  obtain ⟨X, hX0, hX3, hX, gX⟩ := wrap_in he (by omega)
  rw [wrapR_good he] at h8 ⊢
  dsimp -zeta only at h8 ⊢
  rw [← hX3]
  have gXl := gX.len
  have hKl := hX.kl
  generalize (wrapT T6 (toI P) d x0).2.2 = K at h8 hX hKl
  generalize (wrapT T6 (toI P) d x0).1 = T7 at h8 hX gX gXl
  refine ⟨_, _, _, _, _, rfl, cond_n (fun h => absurd rfl h) fun _ => ?_⟩
  have g67 := xg.ext.trans gX.ext
  have hS : SnIn T7 S P K d X nw r v x0 c := ⟨hs6.mono gX.ext, hX, g67 _ _ n5, g67 _ _ r5, g67 _ _ v3, hX0, gX.ext _ _ x3, g67 _ _ c5⟩
  have h8 : At W w8 [ownA sk K, arT a T7, ownA seS (toI S), ownA puS (toI P)] := h8
  intro w20 w21
  have h9 : At W w20 (boxA (newA w8) [.slice none 0 0, .slice none 0 0, .slice none 0 0, .slice none 0 0] :: [ownA sk K, arT a T7, ownA seS (toI S), ownA puS (toI P)]) := h8.box 127 [.slice none 0 0, .slice none 0 0, .slice none 0 0, .slice none 0 0]
  have h10 : At W w21 (ownA ⟨some (newA w20), 1, 1⟩ [X 3] :: boxA (newA w8) [.slice none 0 0, .slice none 0 0, .slice none 0 0, .slice none 0 0] :: [ownA sk K, arT a T7, ownA seS (toI S), ownA puS (toI P)]) := h9.row [X 3] (by simp)
  have h11 : At W w21 (regA ⟨none, 0, 0⟩ [] :: ownA ⟨none, 0, 0⟩ [] :: ownA ⟨none, 0, 0⟩ [] :: ownA ⟨none, 0, 0⟩ [] :: ownA ⟨some (newA w20), 1, 1⟩ [X 3] :: boxA (newA w8) [.slice none 0 0, .slice none 0 0, .slice none 0 0, .slice none 0 0] :: [ownA sk K, arT a T7, ownA seS (toI S), ownA puS (toI P)]) := h10.nil.nil.nil.regNil
  clear_value w21
  generalize newA w20 = ia at h11 ⊢
  generalize newA w8 = stb at h11 ⊢
  have h12 : At W w21 (arT a T7 :: snL stb ⟨none, 0, 0⟩ (fun _ => ⟨none, 0, 0⟩) ⟨[], fun _ => []⟩ ⟨some ia, 1, 1⟩ [X 3] sk K seS S) := ((h11.less 9 rfl).front 5 rfl).front 7 rfl
  refine sn_l15 hRR hAg hal hJ hjl (g67 _ _ d5) hS ⟨fun _ => ⟨rfl, fun _ _ => rfl⟩, fun h => by omega⟩ (by omega) h12
end

set_option maxRecDepth 100000 in
theorem seen_spec {W : World} (hPT : PT W.heap.size W) {ag : Sl} {again : List Bool} (hAg : Bools W ag again) {js : Sl} {junk : List Int} (hJ : IntsW W js junk) :
    CallsV Tryd.prog n_trystlaw24_MixSeen #[.slice ag.a ag.len ag.cap, .slice js.a js.len js.cap] W fun v w' => v = .bool true ∧ Below W.heap.size W w' := by
  refine trystlaw24_MixSeen.lift ?_
  unfold trystlaw24_MixSeen.main
  have hagl : ag.len = again.length := hAg.len
  have hjsl : js.len = junk.length := hJ.i.len
  refine cond_d (fun _ => ⟨rfl, Below.refl _ _⟩) fun h10 => cond_d (fun _ => ⟨rfl, Below.refl _ _⟩) fun h11 => ?_
  generalize hRR : (fun (v : Value) (w' : World) => v = .bool true ∧ Below W.heap.size W w') = RR
  have hRR' : ∀ w, Below W.heap.size W w → RR (.bool true) w := fun w hb => by rw [← hRR]; exact ⟨rfl, hb⟩
  unfold trystlaw24_MixSeen.c20
  refine (new_at (At.start hPT)).mono ?_
  rintro _ w1 ⟨a, rfl, h1⟩
  refine ⟨_, rfl, cond_f' rfl ?_⟩
  unfold trystlaw24_MixSeen.l18
  refine ⟨fun x w' => ∃ (i : Nat) (S P : List Nat) (T : List Tm), x.2.2 = i ∧ i ≤ 3 ∧ SrvIn T 100 S P i ∧ T.length ≤ 2 * i ∧ At W w' [ownA x.1 (toI S), ownA x.2.1 (toI P), arT a T], fun x _ => 3 - x.2.2.toNat,
    ⟨0, [], [], [], rfl, by omega, SrvIn.nil _ _, by simp, h1.nil.nil⟩, ?_⟩
  clear h1
  rintro ⟨ss, sp, _⟩ w2 ⟨i, S, P, T, rfl, hi, hsrv, hTl, h2⟩
  show trystlaw24_MixSeen.b18 _ _ ag js (some a) ss sp (i : Int) w2
  have h2 : At W w2 [ownA ss (toI S), ownA sp (toI P), arT a T] := h2
  have hSl := hsrv.sl
  have hPl := hsrv.pl
  unfold trystlaw24_MixSeen.b18
  refine cond_d (p := ((i : Nat) : Int) < 3) (fun hlt => ?_) fun hge => ?_
  · have e7 : IntKind.i64.wrap (100 + (i : Int)) = ((100 + i : Nat) : Int) := by rw [w64 (by omega)]; omega
    rw [e7]
    refine (mk0 1 ((100 + i : Nat) : Int) (h2.front 2 rfl) (by omega)).mono ?_
    rintro _ w3 ⟨rfl, h3⟩
    obtain ⟨x1, f1, f2, f3, hg1⟩ := put_plain' (T := T) (k := 1) (n := ((100 + i : Nat) : Int)) (.inl rfl) (by omega) (by omega) (by omega)
    have hg1l := hg1.len
    rw [f1, f2]
    generalize (put T ⟨1, ((100 + i : Nat) : Int), []⟩).1 = T1 at h3 f3 hg1 hg1l
    refine ⟨_, _, rfl, ?_⟩
    intro w4
    refine (mk 5 0 [(x1 : Int)] h3 (by omega) (by simp)).mono ?_
    rintro _ w5 ⟨rfl, h5⟩
    obtain ⟨y1, d1, d2, d3, hg2⟩ := put_pub (inT_of f3) (by omega)
    have hg2l := hg2.len
    rw [d1, d2]
    generalize (put T1 ⟨5, 0, [(x1 : Int)]⟩).1 = T2 at h5 d3 hg2 hg2l
    refine ⟨_, _, rfl, cond_n (fun h => absurd rfl h) fun _ => cond_n (fun h => absurd rfl h) fun _ => ?_⟩
    unfold trystlaw24_MixSeen.c19
    intro w6
    obtain ⟨s7, w7, hr7, h7⟩ := more_at 1 rfl h5 (x1 : Int) (by rw [toI_len]; omega)
    refine ⟨_, _, _, _, hr7, ?_⟩
    intro w8
    obtain ⟨s9, w9, hr9, h9⟩ := more_at 2 rfl h7 (y1 : Int) (by rw [toI_len]; omega)
    refine ⟨_, _, _, _, hr9, ?_⟩
    dsimp only
    rw [inc (by omega)]
    have h9 : At W w9 [arT a T2, ownA s7 (toI S ++ [(x1 : Int)]), ownA s9 (toI P ++ [(y1 : Int)])] := h9
    have h9' : At W w9 [ownA s7 (toI (S ++ [x1])), ownA s9 (toI (P ++ [y1])), arT a T2] := by
      rw [toI_app, toI_app]
      exact (h9.front 2 rfl).front 2 rfl
    exact ⟨⟨rfl, rfl, rfl, i + 1, S ++ [x1], P ++ [y1], T2, rfl, by omega, ((hsrv.mono hg1.ext).mono hg2.ext).add (hg2.ext _ _ f3) d3, by omega, h9'⟩, by (try dsimp only); omega⟩
  · have hi3 : i = 3 := by omega
    subst hi3
    exact sn_c17 hRR' hAg (by omega) hJ.i (by omega) hsrv hTl h2

end Go.Proofs.YtoclhecldmahiaaDoor
