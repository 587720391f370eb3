/-
  Rounds in which one onion comes, once; nothing else is one.
-/
import Derived.Test.YtoclhecldmahiaaDoorMyA
import Derived.Test.YtoclhecldmahiaaDoorMxS
set_option linter.unusedVariables false
set_option linter.unusedVariables false
set_option linter.unusedSimpArgs false
namespace Go.Proofs.YtoclhecldmahiaaDoor
open Go.Lf Go.RowKit

theorem peel_no {T : List Tm} {x : Nat} {t : Tm} (hx : T[x]? = some t) (hk : t.kind ≠ 7) {s : Int} : (peelT T s x).2.2 ≠ 0 := by
  have hu : (unboxT T x s).2 ≠ 0 := by
    unfold unboxT
    split
    · intro h; cases h
    · rw [tmAt_of hx, if_pos hk]
      intro h; cases h
  unfold peelT
  rw [if_pos hu]
  exact hu

theorem seenAt_self (st : MxS) (s : Nat) : seenAt st s (st.seen s) = st := by
  cases st
  unfold seenAt
  congr 1
  funext j
  show (if j = s then _ else _) = _
  split
  · rename_i h; rw [h]
  · rfl
theorem repl_getD {n k : Nat} {x : Int} (h : k < n) : (List.replicate n x)[k]?.getD 0 = x := by rw [List.getElem?_replicate, if_pos h]; rfl
theorem rep_of {l : List Int} {n : Nat} {x : Int} (hl : l.length = n) (h : ∀ j, j < n → l[j]?.getD 0 = x) : l = List.replicate n x := by
  refine List.ext_getElem (by simpa using hl) fun j h1 h2 => ?_
  have := h j (by omega)
  rw [List.getElem?_eq_getElem h1, Option.getD_some] at this
  rw [List.getElem_replicate]
  exact this
theorem cons_of {l : List Int} {n : Nat} {y x : Int} (hl : l.length = n + 1) (h0 : l[0]?.getD 0 = y) (h : ∀ j, 0 < j → j < n + 1 → l[j]?.getD 0 = x) : l = y :: List.replicate n x := by
  refine List.ext_getElem (by simpa using hl) fun j h1 h2 => ?_
  cases j with
  | zero =>
    rw [List.getElem?_eq_getElem (by omega), Option.getD_some] at h0
    simpa using h0
  | succ j =>
    have := h (j + 1) (by omega) (by omega)
    rw [List.getElem?_eq_getElem h1, Option.getD_some] at this
    simpa using this

section
variable {T : List Tm} {secs : List Int} {nw : Int} {sec : Int} {seen l : List Int} {n : Nat}

/-! nothing is opened -/

theorem doS_none {none : Int} {rs : List Rg} {Q : List Rq} : ∀ k, (∀ j, j < k → (rq Q j).1 = 0) → doS none Q rs k = (rs, List.replicate k none)
  | 0, _ => rfl
  | k + 1, h => by
    have h0 := h k (by omega)
    show ((ansT none Q (doS none Q rs k).1 k).1, (doS none Q rs k).2 ++ [(ansT none Q (doS none Q rs k).1 k).2]) = _
    rw [doS_none k fun j hj => h j (by omega)]
    have e : ansT none Q rs k = (rs, none) := by
      unfold ansT
      rw [if_neg (by omega), if_neg (by omega), if_neg (by omega)]
    rw [e, List.replicate_succ']
theorem onS_none (h : ∀ x ∈ l, (peelT T sec x).2.2 ≠ 0 ∨ x ∈ seen) : onS T sec nw seen l (idsP l.length) l.length = List.replicate l.length nw := by
  refine rep_of (onS_len _) fun j hj => ?_
  rw [onS_ids l.length (Nat.le_refl _) j hj, if_pos hj, openS_bad h j (by omega), stepS_bad (h _ (getD_mem hj))]
  rfl
theorem sealS_none {T : List Tm} {back : List Int} {m : Nat} {p : List Int} : ∀ k, k ≤ m → sealS T (List.replicate m (-1)) p back nw k = (T, List.replicate k nw)
  | 0, _ => rfl
  | k + 1, hk => by
    show (if 0 ≤ (List.replicate m (-1 : Int))[k]?.getD 0 then _ else _) = _
    rw [repl_getD (by omega), if_neg (by decide), sealS_none k (by omega), List.replicate_succ']

theorem rnd_none (hw : wordT T = (T, nw, 0)) (hq : (rqOf T nw).1 = 0) (hb : ∀ s, s < 3 → (peelT T (secs[s]?.getD 0) nw).2.2 ≠ 0) : ∀ (d : Nat) {s : Nat} {st : MxS}, s + d = 3 → rndT T nw secs (fun _ => idsP n) d s st (List.replicate n nw) = (T, st, List.replicate n nw)
  | 0, s, st, _ => by
    show ((wordT T).1, { st with regs := (doT T st.regs _).1 }, (doT T st.regs _).2) = _
    have e : doT T st.regs (List.replicate n nw) = (st.regs, List.replicate n nw) := by
      unfold doT
      rw [hw, List.length_replicate, doS_none n fun j hj => ?_]
      unfold rq
      rw [List.getElem?_map, List.getElem?_replicate, if_pos hj]
      exact hq
    rw [e, hw]
  | d + 1, s, st, hs => by
    have hbad : ∀ x ∈ List.replicate n nw, (peelT T (secs[s]?.getD 0) x).2.2 ≠ 0 ∨ x ∈ st.seen s := fun x hx => by
      obtain ⟨_, rfl⟩ := List.mem_replicate.1 hx
      exact .inl (hb s (by omega))
    have e1 := openS_bad hbad (List.replicate n nw).length (Nat.le_refl _)
    have e2 := onS_none (nw := nw) hbad
    have ih := rnd_none hw hq hb d (s := s + 1) (st := st) (by omega)
    rw [List.length_replicate] at e1 e2
    show ((sealS (rndT T nw secs (fun _ => idsP n) d (s + 1) (seenAt st s (openS T (secs[s]?.getD 0) (st.seen s) (List.replicate n nw) (List.replicate n nw).length).2) (onS T (secs[s]?.getD 0) nw (st.seen s) (List.replicate n nw) (idsP n) (List.replicate n nw).length)).1 _ _ _ nw (List.replicate n nw).length).1, _, _) = _
    rw [List.length_replicate, e1, e2, seenAt_self, ih]
    show ((sealS T ((List.replicate n none).map keyO) (idsP n) (List.replicate n nw) nw n).1, st, (sealS T ((List.replicate n none).map keyO) (idsP n) (List.replicate n nw) nw n).2) = _
    rw [List.map_replicate, show keyO none = -1 from rfl, sealS_none n (Nat.le_refl _)]

/-- a round in which nothing is opened -/
theorem round_none {st : MxS} (hw : wordT T = (T, nw, 0)) (hq : (rqOf T nw).1 = 0) (hb : ∀ s, s < 3 → (peelT T (secs[s]?.getD 0) nw).2.2 ≠ 0) (hl : l.length = n) (hbad : ∀ x ∈ l, (peelT T (secs[0]?.getD 0) x).2.2 ≠ 0 ∨ x ∈ st.seen 0) :
    roundT T st secs l (fun _ => idsP n) = (T, st, List.replicate n nw) := by
  subst hl
  have e1 := openS_bad hbad l.length (Nat.le_refl _)
  have e2 := onS_none (nw := nw) hbad
  have ih := rnd_none (n := l.length) hw hq hb 2 (s := 1) (st := st) rfl
  unfold roundT
  rw [hw]
  show ((sealS (rndT T nw secs (fun _ => idsP l.length) 2 1 (seenAt st 0 (openS T (secs[0]?.getD 0) (st.seen 0) l l.length).2) (onS T (secs[0]?.getD 0) nw (st.seen 0) l (idsP l.length) l.length)).1 _ _ _ nw l.length).1, _, _) = _
  rw [e1, e2, seenAt_self, ih]
  show ((sealS T ((List.replicate l.length none).map keyO) (idsP l.length) (List.replicate l.length nw) nw l.length).1, st, (sealS T ((List.replicate l.length none).map keyO) (idsP l.length) (List.replicate l.length nw) nw l.length).2) = _
  rw [List.map_replicate, show keyO none = -1 from rfl, sealS_none _ (Nat.le_refl _)]

/-! the first one is an onion -/

theorem openS_one {y y' key : Int} {rest : List Int} (hy : peelT T sec y = (y', key, 0)) (hr : ∀ x ∈ rest, (peelT T sec x).2.2 ≠ 0 ∨ x = y) : ∀ k, k ≤ rest.length → openS T sec [] (y :: rest) (k + 1) = (.some (y', key) :: List.replicate k .none, [y])
  | 0, _ => by
    show (([] : List (Option (Int × Int))) ++ [(stepS T sec [] y).1], (stepS T sec [] y).2) = _
    unfold stepS
    rw [hy, if_neg (by simp)]
    rfl
  | k + 1, hk => by
    have ih := openS_one hy hr k (by omega)
    show ((openS T sec [] (y :: rest) (k + 1)).1 ++ [(stepS T sec (openS T sec [] (y :: rest) (k + 1)).2 ((y :: rest)[k + 1]?.getD 0)).1], (stepS T sec (openS T sec [] (y :: rest) (k + 1)).2 ((y :: rest)[k + 1]?.getD 0)).2) = _
    have hb : (peelT T sec ((y :: rest)[k + 1]?.getD 0)).2.2 ≠ 0 ∨ (y :: rest)[k + 1]?.getD 0 ∈ [y] := by
      rw [List.getElem?_cons_succ]
      exact (hr _ (getD_mem (by omega))).imp id fun h => by rw [h]; simp
    rw [ih, stepS_bad hb, List.replicate_succ']
    rfl
theorem onS_one {y y' key : Int} {rest : List Int} (hy : peelT T sec y = (y', key, 0)) (hr : ∀ x ∈ rest, (peelT T sec x).2.2 ≠ 0 ∨ x = y) : onS T sec nw [] (y :: rest) (idsP (rest.length + 1)) (rest.length + 1) = y' :: List.replicate rest.length nw := by
  have hi := onS_ids (T := T) (sec := sec) (nw := nw) (seen := []) (l := y :: rest) (y :: rest).length (Nat.le_refl _)
  have hl := onS_len (T := T) (sec := sec) (nw := nw) (seen := []) (l := y :: rest) (perm := idsP (y :: rest).length) (y :: rest).length
  refine cons_of hl ?_ fun j h0 hj => ?_
  · refine (hi 0 (by simp)).trans ?_
    rw [if_pos (by simp)]
    show inO nw (stepS T sec [] y).1 = y'
    unfold stepS
    rw [hy, if_neg (by simp)]
    rfl
  · obtain ⟨k, rfl⟩ : ∃ k, j = k + 1 := ⟨j - 1, by omega⟩
    refine (hi (k + 1) (by simpa using hj)).trans ?_
    rw [if_pos (by simpa using hj), openS_one hy hr k (by omega)]
    have hb : (peelT T sec ((y :: rest)[k + 1]?.getD 0)).2.2 ≠ 0 ∨ (y :: rest)[k + 1]?.getD 0 ∈ [y] := by
      rw [List.getElem?_cons_succ]
      exact (hr _ (getD_mem (by omega))).imp id fun h => by rw [h]; simp
    rw [stepS_bad hb]
    rfl
theorem sealS_one {T : List Tm} {back : List Int} {m : Nat} {key : Int} (hk : 0 ≤ key) : ∀ k, k ≤ m → sealS T (key :: List.replicate m (-1)) (idsP (m + 1)) back nw (k + 1) = ((put T ⟨6, 0, [key, back[0]?.getD 0]⟩).1, (put T ⟨6, 0, [key, back[0]?.getD 0]⟩).2.1 :: List.replicate k nw)
  | 0, _ => by
    show (if 0 ≤ key then _ else _) = _
    rw [if_pos hk]
    have : (idsP (m + 1))[0]?.getD 0 = 0 := idsP_at (by omega)
    show ((put T ⟨6, 0, [key, back[((idsP (m + 1))[0]?.getD 0).toNat]?.getD 0]⟩).1, [] ++ [(put T ⟨6, 0, [key, back[((idsP (m + 1))[0]?.getD 0).toNat]?.getD 0]⟩).2.1]) = _
    rw [this]
    rfl
  | k + 1, hk' => by
    have ih := sealS_one (T := T) (back := back) (m := m) hk k (by omega)
    show (if 0 ≤ (key :: List.replicate m (-1 : Int))[k + 1]?.getD 0 then _ else ((sealS T _ _ back nw (k + 1)).1, (sealS T _ _ back nw (k + 1)).2 ++ [nw])) = _
    rw [List.getElem?_cons_succ, repl_getD (by omega), if_neg (by decide), ih, List.replicate_succ']
    rfl

theorem doT_one {T : List Tm} {r v p : Int} {m : Nat} (hw : wordT T = (T, nw, 0)) (hq : (rqOf T nw).1 = 0) (hp : rqOf T p = (71, [r, v])) : doT T [] (p :: List.replicate m nw) = ([(r, v)], v :: List.replicate m nw) := by
  unfold doT
  rw [hw, List.length_cons, List.length_replicate]
  have r0 : rq ((p :: List.replicate m nw).map (rqOf T)) 0 = (71, [r, v]) := by unfold rq; simp [hp]
  have rj : ∀ j, j < m → (rq ((p :: List.replicate m nw).map (rqOf T)) (j + 1)).1 = 0 := fun j hj => by
    unfold rq
    rw [List.map_cons, List.getElem?_cons_succ, List.getElem?_map, List.getElem?_replicate, if_pos hj]
    exact hq
  generalize (p :: List.replicate m nw).map (rqOf T) = Q at r0 rj
  have key : ∀ k, k ≤ m → doS nw Q [] (k + 1) = ([(r, v)], v :: List.replicate k nw) := by
    intro k
    induction k with
    | zero =>
      intro _
      show ((ansT nw Q [] 0).1, [] ++ [(ansT nw Q [] 0).2]) = _
      have e : ansT nw Q [] 0 = ([(r, v)], v) := by
        unfold ansT rqId rqV
        rw [r0]
        simp [hasId, valT]
      rw [e]
      rfl
    | succ k ih =>
      intro hk
      have h0 := rj k (by omega)
      show ((ansT nw Q (doS nw Q [] (k + 1)).1 (k + 1)).1, (doS nw Q [] (k + 1)).2 ++ [(ansT nw Q (doS nw Q [] (k + 1)).1 (k + 1)).2]) = _
      rw [ih (by omega)]
      have e : ansT nw Q [(r, v)] (k + 1) = ([(r, v)], nw) := by
        unfold ansT
        rw [if_neg (by omega), if_neg (by omega), if_neg (by omega)]
      rw [e, List.replicate_succ']
      rfl
  exact key m (Nat.le_refl _)

theorem rnd_step {T : List Tm} {nw : Int} {secs l : List Int} {P : Nat → List Int} {d s : Nat} {st : MxS} {ops : List (Option (Int × Int))} {sn onl : List Int} (e1 : openS T (secs[s]?.getD 0) (st.seen s) l l.length = (ops, sn)) (e2 : onS T (secs[s]?.getD 0) nw (st.seen s) l (P s) l.length = onl) :
    rndT T nw secs P (d + 1) s st l = ((sealS (rndT T nw secs P d (s + 1) (seenAt st s sn) onl).1 (ops.map keyO) (P s) (rndT T nw secs P d (s + 1) (seenAt st s sn) onl).2.2 nw l.length).1, (rndT T nw secs P d (s + 1) (seenAt st s sn) onl).2.1, (sealS (rndT T nw secs P d (s + 1) (seenAt st s sn) onl).1 (ops.map keyO) (P s) (rndT T nw secs P d (s + 1) (seenAt st s sn) onl).2.2 nw l.length).2) := by
  show (_, _, _) = _
  rw [e1, e2]

/-- the servers, one behind the other -/
theorem rnd_one {X : Nat → Int} {K : List Int} {r v : Int} (hl : T.length ≤ 600000) (hnw : inT T nw) (hw : wordT T = (T, nw, 0)) (hq : (rqOf T nw).1 = 0) (hb : ∀ s, s < 3 → (peelT T (secs[s]?.getD 0) nw).2.2 ≠ 0)
    (hX : ∀ s, s < 3 → peelT T (secs[s]?.getD 0) (X (3 - s)) = (X (2 - s), K[s]?.getD 0, 0)) (hK : ∀ s, s < 3 → inT T (K[s]?.getD 0)) (hv : inT T v) (hp : rqOf T (X 0) = (71, [r, v])) :
    ∀ (d : Nat) {s n : Nat} {st : MxS} {rest : List Int}, s + d = 3 → (∀ j, s ≤ j → j < 3 → st.seen j = []) → st.regs = [] → rest.length = n → (∀ x ∈ rest, (0 < d → (peelT T (secs[s]?.getD 0) x).2.2 ≠ 0 ∨ x = X d) ∧ (d = 0 → x = nw)) →
    Grown T (rndT T nw secs (fun _ => idsP (n + 1)) d s st (X d :: rest)).1 d ∧ (rndT T nw secs (fun _ => idsP (n + 1)) d s st (X d :: rest)).2.1.regs = [(r, v)] ∧ (∀ j, j < s → (rndT T nw secs (fun _ => idsP (n + 1)) d s st (X d :: rest)).2.1.seen j = st.seen j) ∧ (∀ j, s ≤ j → j < 3 → (rndT T nw secs (fun _ => idsP (n + 1)) d s st (X d :: rest)).2.1.seen j = [X (3 - j)]) ∧
      ∃ y, (rndT T nw secs (fun _ => idsP (n + 1)) d s st (X d :: rest)).2.2 = y :: List.replicate n nw ∧ inT (rndT T nw secs (fun _ => idsP (n + 1)) d s st (X d :: rest)).1 y ∧ SealC (rndT T nw secs (fun _ => idsP (n + 1)) d s st (X d :: rest)).1 K d y v
  | 0, s, n, st, rest, hs, hse, hr, hrl, hrest => by
    have e : rest = List.replicate n nw := List.eq_replicate_iff.2 ⟨hrl, fun x hx => (hrest x hx).2 rfl⟩
    subst e
    have ed : rndT T nw secs (fun _ => idsP (n + 1)) 0 s st (X 0 :: List.replicate n nw) = (T, { st with regs := [(r, v)] }, v :: List.replicate n nw) := by
      show ((wordT T).1, { st with regs := (doT T st.regs _).1 }, (doT T st.regs _).2) = _
      rw [hr, doT_one hw hq hp, hw]
    rw [ed]
    exact ⟨Grown.refl T, rfl, fun _ _ => rfl, fun j h1 h2 => absurd h1 (by omega), v, rfl, hv, rfl⟩
  | d + 1, s, n, st, rest, hs, hse, hr, hrl, hrest => by
    subst hrl
    have hs3 : s < 3 := by omega
    have hy := hX s hs3
    rw [show 3 - s = d + 1 by omega, show 2 - s = d by omega] at hy
    have hbad : ∀ x ∈ rest, (peelT T (secs[s]?.getD 0) x).2.2 ≠ 0 ∨ x = X (d + 1) := fun x hx => (hrest x hx).1 (by omega)
    have e1 := openS_one hy hbad rest.length (Nat.le_refl _)
    have e2 := onS_one (nw := nw) hy hbad
    obtain ⟨g, i1, i2, i3, y, i4, i5, i6⟩ := rnd_one hl hnw hw hq hb hX hK hv hp d (s := s + 1) (n := rest.length) (st := seenAt st s [X (d + 1)]) (rest := List.replicate rest.length nw) (by omega) (fun j h1 h2 => by show (if j = s then _ else st.seen j) = []; rw [if_neg (by omega)]; exact hse j (by omega) h2) hr (by simp) fun x hx => by
      obtain ⟨_, rfl⟩ := List.mem_replicate.1 hx
      exact ⟨fun hd => .inl (hb _ (by omega)), fun _ => rfl⟩
    have hkey := hK s hs3
    have gl := g.len
    have ed : rndT T nw secs (fun _ => idsP (rest.length + 1)) (d + 1) s st (X (d + 1) :: rest) = ((put (rndT T nw secs (fun _ => idsP (rest.length + 1)) d (s + 1) (seenAt st s [X (d + 1)]) (X d :: List.replicate rest.length nw)).1 ⟨6, 0, [K[s]?.getD 0, y]⟩).1,
        (rndT T nw secs (fun _ => idsP (rest.length + 1)) d (s + 1) (seenAt st s [X (d + 1)]) (X d :: List.replicate rest.length nw)).2.1, (put (rndT T nw secs (fun _ => idsP (rest.length + 1)) d (s + 1) (seenAt st s [X (d + 1)]) (X d :: List.replicate rest.length nw)).1 ⟨6, 0, [K[s]?.getD 0, y]⟩).2.1 :: List.replicate rest.length nw) := by
      have e0 := hse s (Nat.le_refl _) hs3
      have e1' : openS T (secs[s]?.getD 0) (st.seen s) (X (d + 1) :: rest) (rest.length + 1) = (.some (X d, K[s]?.getD 0) :: List.replicate rest.length .none, [X (d + 1)]) := by rw [e0]; exact e1
      have e2' : onS T (secs[s]?.getD 0) nw (st.seen s) (X (d + 1) :: rest) (idsP (rest.length + 1)) (rest.length + 1) = X d :: List.replicate rest.length nw := by rw [e0]; exact e2
      rw [rnd_step (P := fun _ => idsP (rest.length + 1)) (l := X (d + 1) :: rest) (by exact e1') (by exact e2')]
      dsimp only [List.length_cons]
      rw [List.map_cons, List.map_replicate, show keyO none = -1 from rfl, show keyO (some (X d, K[s]?.getD 0)) = K[s]?.getD 0 from rfl, sealS_one hkey.1 rest.length (Nat.le_refl _), i4]
      rfl
    obtain ⟨o, f1, f2, f3⟩ := putAt (T := (rndT T nw secs (fun _ => idsP (rest.length + 1)) d (s + 1) (seenAt st s [X (d + 1)]) (X d :: List.replicate rest.length nw)).1) (err_seal (g.ext.inT hkey) i5) (by omega)
    have hgp : Grown (rndT T nw secs (fun _ => idsP (rest.length + 1)) d (s + 1) (seenAt st s [X (d + 1)]) (X d :: List.replicate rest.length nw)).1 (put (rndT T nw secs (fun _ => idsP (rest.length + 1)) d (s + 1) (seenAt st s [X (d + 1)]) (X d :: List.replicate rest.length nw)).1 ⟨6, 0, [K[s]?.getD 0, y]⟩).1 1 := Grown.put _ (by simp)
    rw [ed]
    refine ⟨g.trans hgp, i1, fun j hj => ?_, fun j h1 h2 => ?_, _, rfl, by rw [f1]; exact inT_of f3, o, y, f1, ?_, i6.mono hgp.ext⟩
    · refine (i2 j (by omega)).trans ?_
      show (if j = s then _ else st.seen j) = _
      rw [if_neg (by omega)]
    · by_cases hjs : j = s
      · subst hjs
        refine (i2 j (by omega)).trans ?_
        show (if j = j then _ else _) = _
        rw [if_pos rfl, show 3 - j = d + 1 by omega]
      · exact i3 j (by omega) h2
    · rw [show 2 - d = s by omega]
      exact f3
end

end Go.Proofs.YtoclhecldmahiaaDoor

/-
  Of rounds: what is wrong with one; onions of unlike draws; rows.
-/
set_option linter.unusedVariables false
set_option linter.unusedSimpArgs false
namespace Go.Proofs.YtoclhecldmahiaaDoor
open Go.Lf Go.RowKit

theorem put_pub {T : List Tm} {x : Nat} (hx : inT T x) (hl : T.length ≤ 1000000) : ∃ y : Nat, (put T ⟨5, 0, [(x : Int)]⟩).2.1 = y ∧ (put T ⟨5, 0, [(x : Int)]⟩).2.2 = 0 ∧ (put T ⟨5, 0, [(x : Int)]⟩).1[y]? = some ⟨5, 0, [(x : Int)]⟩ ∧ Grown T (put T ⟨5, 0, [(x : Int)]⟩).1 1 := by
  have he : errOf T ⟨5, 0, [(x : Int)]⟩ = 0 := errOk (by simp) (by simp) (.inr rfl) (by simp [least]) (by simp [mostOf]) (by simpa using hx)
  obtain ⟨y, h1, h2, h3⟩ := putAt he (by omega)
  exact ⟨y, h1, h2, h3, Grown.put _ (by simp)⟩

def wrongB (l : List Int) (P : List (List Int)) : Int := if P.length ≠ 3 ∨ 100 < l.length then 2 else if ¬ ∀ p ∈ P, permOk p l.length then 1 else 0
theorem wrongT_B {T : List Tm} {st : MxS} {secs l la : List Int} {P : List (List Int)} (hs : secs.length = 3) (hl : la.length = l.length) (h : allIn T st secs la) : wrongT T st secs la P = wrongB l P := by
  unfold wrongT wrongB
  rw [hl]
  by_cases h1 : P.length ≠ 3 ∨ 100 < l.length
  · rw [if_pos (.inr h1), if_pos h1]
  · rw [if_neg (fun hh => hh.elim (fun hh => hh hs) h1), if_neg h1]
    by_cases h2 : ∀ p ∈ P, permOk p l.length
    · have a1 : ¬ ¬ ∀ p ∈ P, permOk p l.length := fun hh => hh h2
      have a2 : ¬ ¬ allIn T st secs la := fun hh => hh h
      rw [if_neg a1, if_neg a1, if_neg a2]
    · rw [if_pos h2, if_pos h2]

theorem rowsL_perm {t sp : Sl} {ys : List Int} {Z : List (Sl × List Int)} {R : List Asn} : (ownA t ys :: rowsA sp (Z ++ [(t, ys)]) :: ((Z.map fun z => ownA z.1 z.2) ++ R)).Perm (rowsL sp (Z ++ [(t, ys)]) ++ R) := by
  have h := (List.Perm.swap (rowsA sp (Z ++ [(t, ys)])) (ownA t ys) ((Z.map fun z => ownA z.1 z.2) ++ R)).trans (List.Perm.cons _ (List.perm_middle (l₁ := Z.map fun z => ownA z.1 z.2) (a := ownA t ys) (l₂ := R)).symm)
  have e : rowsL sp (Z ++ [(t, ys)]) ++ R = rowsA sp (Z ++ [(t, ys)]) :: ((Z.map fun z => ownA z.1 z.2) ++ ownA t ys :: R) := by
    unfold rowsL
    rw [List.map_append]
    show rowsA sp (Z ++ [(t, ys)]) :: (((Z.map fun z => ownA z.1 z.2) ++ [ownA t ys]) ++ R) = _
    rw [List.append_assoc]
    rfl
  rw [e]
  exact h

section
variable {W w w' : World} {L R Y K : List Asn} {y p pp a b : Addr} {A B : List Tm} {n m : Nat}
theorem PairAt.cut (h : PairAt W w pp a b A B n (K ++ R)) : PairAt W w pp a b A B n R := h.onR fun M h1 => by
  have h2 : At W w (K ++ (prA pp a b M :: ([arT a A, pgT b B] ++ R))) := h1.perm (permK (K := K) (S := [arT a A, pgT b B])).symm
  exact h2.dropL
/-- behind an append to numbers -/
theorem PairAt.more_at (k : Nat) {s : Sl} {xs : List Int} (hk : R[k]? = some (ownA s xs)) (h : PairAt W w pp a b A B n R) (x : Int) (hx : xs.length ≤ 100000000) :
    ∃ (s' : Sl) (w' : World), (builtin .append #[29, 29] 29 #[] #[.slice s.a s.len s.cap, .slice (some (newA w)) 1 1]).run Tryd.prog (w.alloc (.cells #[.int .i64 x] 3)) = .ok (.value (.slice s'.a s'.len s'.cap)) w' ∧ PairAt W w' pp a b A B n (R.set k (ownA s' (xs ++ [x]))) := by
  obtain ⟨M, h1, h2⟩ := h
  obtain ⟨s', w', r, h3⟩ := Proofs.YtoclhecldmahiaaDoor.more_at (k + 3) (by simpa using hk) h1 x hx
  exact ⟨s', w', r, M, h3, h2⟩

end

theorem SealC.read {T : List Tm} {K : List Int} (hK : K.length = 3) (kin : ∀ k ∈ K, inT T k) {y v : Int} (h : SealC T K 3 y v) : readP T K y = (v, 0) := by
  obtain ⟨o0, y0, rfl, h0, o1, y1, rfl, h1, o2, y2, rfl, h2, h3⟩ := h
  have h3 : y2 = v := h3
  subst h3
  unfold readP
  rw [if_neg (by omega), if_neg (fun hh => hh ⟨kin, inT_of h0⟩)]
  match K, hK with
  | [k0, k1, k2], _ =>
    have e0 : openT T o0 k0 = ([(o1 : Int)], 0) := open_hit h0 (kin _ (by simp))
    have e1 : openT T o1 k1 = ([(o2 : Int)], 0) := open_hit h1 (kin _ (by simp))
    have e2 : openT T o2 k2 = ([y2], 0) := open_hit h2 (kin _ (by simp))
    rw [readL_cons, e0]
    show readL _ [k1, k2] (o1 : Int) = _
    rw [readL_cons, e1]
    show readL _ [k2] (o2 : Int) = _
    rw [readL_cons, e2]
    rfl

end Go.Proofs.YtoclhecldmahiaaDoor
