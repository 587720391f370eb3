/-
  Rounds in which each server leaves everything at its place.
-/
import Derived.Test.YtoclhecldmahiaaDoorMxS
import Derived.Test.YtoclhecldmahiaaDoorMxE0
set_option linter.unusedVariables false
set_option linter.unusedVariables false
set_option linter.unusedSimpArgs false
namespace Go.Proofs.YtoclhecldmahiaaDoor
open Go.Lf Go.RowKit

section
variable {T : List Tm} {sec nw : Int} {seen l : List Int}

end

end Go.Proofs.YtoclhecldmahiaaDoor

/-
  Rounds in which each that comes is an onion: what is opened, placed, sealed back.
-/
set_option linter.unusedVariables false
set_option linter.unusedSimpArgs false
namespace Go.Proofs.YtoclhecldmahiaaDoor
open Go.Lf Go.RowKit

/-! where each one stands -/

structure Pos (n : Nat) (pos : Nat → Nat) : Prop where
  lt : ∀ i, i < n → pos i < n
  inj : ∀ i j, i < n → j < n → pos i = pos j → i = j
theorem Pos.id (n : Nat) : Pos n fun i => i := ⟨fun _ h => h, fun _ _ _ _ h => h⟩
theorem Pos.ok {n : Nat} {pos : Nat → Nat} (h : Pos n pos) : permOk ((List.range n).map fun i => ((pos i : Nat) : Int)) n := by
  refine ⟨by simp, fun x hx => ?_, ?_⟩
  · obtain ⟨i, hi, rfl⟩ := List.mem_map.1 hx
    have := h.lt i (List.mem_range.1 hi)
    omega
  · refine List.pairwise_map.2 (List.nodup_range.imp_of_mem fun {a b} ha hb hne he => hne ?_)
    exact h.inj _ _ (List.mem_range.1 ha) (List.mem_range.1 hb) (by omega)
theorem Pos.surj {n : Nat} {pos : Nat → Nat} (h : Pos n pos) {q : Nat} (hq : q < n) : ∃ i, i < n ∧ pos i = q := by
  obtain ⟨j, hj, e⟩ := perm_all h.ok hq
  rw [List.getElem?_map, List.getElem?_range hj] at e
  have e : ((pos j : Nat) : Int) = q := by simpa using e
  exact ⟨j, hj, by omega⟩
theorem Pos.perm {n : Nat} {pos : Nat → Nat} (h : Pos n pos) : ((List.range n).map pos).Perm (List.range n) := by
  refine (List.perm_ext_iff_of_nodup ?_ List.nodup_range).2 fun q => ?_
  · exact List.pairwise_map.2 (List.nodup_range.imp_of_mem fun {a b} ha hb hne he => hne (h.inj _ _ (List.mem_range.1 ha) (List.mem_range.1 hb) he))
  · rw [List.mem_map, List.mem_range]
    constructor
    · rintro ⟨i, hi, rfl⟩
      exact h.lt i (List.mem_range.1 hi)
    · intro hq
      obtain ⟨i, hi, e⟩ := h.surj hq
      exact ⟨i, List.mem_range.2 hi, e⟩
theorem Pos.step {n : Nat} {pos : Nat → Nat} (h : Pos n pos) {p : List Int} (hp : permOk p n) : Pos n fun i => (p[pos i]?.getD 0).toNat := by
  have hl := hp.1
  refine ⟨fun i hi => ?_, fun i j hi hj he => ?_⟩
  · have := hp.2.1 _ (getD_mem (l := p) (k := pos i) (by have := h.lt i hi; omega))
    omega
  · refine Classical.byContradiction fun hne => ?_
    have h1 := h.lt i hi
    have h2 := h.lt j hj
    have hpi := hp.2.1 _ (getD_mem (l := p) (k := pos i) (by omega))
    have hpj := hp.2.1 _ (getD_mem (l := p) (k := pos j) (by omega))
    have he : (p[pos i]?.getD 0).toNat = (p[pos j]?.getD 0).toNat := he
    exact perm_ne hp h1 h2 (fun e => hne (h.inj i j hi hj e)) (by omega)

structure Plc (n : Nat) (pos : Nat → Nat) (f : Nat → Int) (l : List Int) : Prop where
  len : l.length = n
  at_ : ∀ i, i < n → l[pos i]?.getD 0 = f i
theorem Plc.mem {n : Nat} {pos : Nat → Nat} {f : Nat → Int} {l : List Int} (h : Plc n pos f l) (hp : Pos n pos) {x : Int} (hx : x ∈ l) : ∃ i, i < n ∧ x = f i := by
  obtain ⟨q, hq⟩ := List.getElem?_of_mem hx
  have hlt := (List.getElem?_eq_some_iff.1 hq).1
  obtain ⟨i, hi, rfl⟩ := hp.surj (q := q) (by rw [← h.len]; exact hlt)
  exact ⟨i, hi, by rw [← h.at_ i hi, hq]; rfl⟩
theorem Plc.nodup {n : Nat} {pos : Nat → Nat} {f : Nat → Int} {l : List Int} (h : Plc n pos f l) (hp : Pos n pos) (hf : ∀ i j, i < n → j < n → f i = f j → i = j) : l.Nodup := by
  have hl := h.len
  refine List.pairwise_iff_getElem.2 fun a b ha hb hab he => ?_
  obtain ⟨i, hi, ei⟩ := hp.surj (q := a) (by omega)
  obtain ⟨j, hj, ej⟩ := hp.surj (q := b) (by omega)
  have h1 := h.at_ i hi
  have h2 := h.at_ j hj
  rw [ei, List.getElem?_eq_getElem ha, Option.getD_some] at h1
  rw [ej, List.getElem?_eq_getElem hb, Option.getD_some] at h2
  have := hf i j hi hj (by rw [← h1, ← h2, he])
  subst this
  omega

/-! a server, of onions alone -/

section
variable {T : List Tm} {sec nw : Int} {l perm : List Int}

def opv (T : List Tm) (sec x : Int) : Option (Int × Int) := .some ((peelT T sec x).1, (peelT T sec x).2.1)
theorem stepS_all (hnd : l.Nodup) (hp : ∀ x ∈ l, (peelT T sec x).2.2 = 0) {k : Nat} (hk : k < l.length) : stepS T sec (l.take k) (l[k]?.getD 0) = (opv T sec (l[k]?.getD 0), l.take (k + 1)) := by
  have e : l[k]?.getD 0 = l[k] := by rw [List.getElem?_eq_getElem hk]; rfl
  have hn : ¬ ((peelT T sec (l[k]?.getD 0)).2.2 ≠ 0 ∨ l[k]?.getD 0 ∈ l.take k) := by
    rw [e]
    rintro (h | h)
    · exact h (hp _ (List.getElem_mem hk))
    · obtain ⟨q, hq⟩ := List.getElem?_of_mem h
      have hlt := (List.getElem?_eq_some_iff.1 hq).1
      rw [List.length_take] at hlt
      rw [List.getElem?_take_of_lt (by omega), List.getElem?_eq_getElem (by omega)] at hq
      exact List.pairwise_iff_getElem.1 hnd q k (by omega) hk (by omega) (Option.some.inj hq)
  unfold stepS
  rw [if_neg hn, List.take_succ_eq_append_getElem hk, e]
  rfl
theorem openS_all (hnd : l.Nodup) (hp : ∀ x ∈ l, (peelT T sec x).2.2 = 0) : ∀ k, k ≤ l.length → openS T sec [] l k = ((l.take k).map (opv T sec), l.take k)
  | 0, _ => rfl
  | k + 1, hk => by
    have ih := openS_all hnd hp k (by omega)
    show ((openS T sec [] l k).1 ++ [(stepS T sec (openS T sec [] l k).2 (l[k]?.getD 0)).1], (stepS T sec (openS T sec [] l k).2 (l[k]?.getD 0)).2) = _
    rw [ih, stepS_all hnd hp (by omega), List.take_succ_eq_append_getElem (by omega), List.map_append, List.getElem?_eq_getElem (by omega)]
    rfl
theorem onS_all (hnd : l.Nodup) (hp : ∀ x ∈ l, (peelT T sec x).2.2 = 0) (hperm : permOk perm l.length) : ∀ k, k ≤ l.length → ∀ j, j < k → (onS T sec nw [] l perm k)[(perm[j]?.getD 0).toNat]?.getD 0 = (peelT T sec (l[j]?.getD 0)).1
  | 0, _, j, hj => absurd hj (by omega)
  | k + 1, hk, j, hj => by
    have ih := onS_all hnd hp hperm k (by omega)
    have hpl := hperm.1
    have hpj := hperm.2.1 _ (getD_mem (l := perm) (k := j) (by omega))
    have hpk := hperm.2.1 _ (getD_mem (l := perm) (k := k) (by omega))
    show ((onS T sec nw [] l perm k).set (perm[k]?.getD 0).toNat (inO nw (stepS T sec (openS T sec [] l k).2 (l[k]?.getD 0)).1))[_]?.getD 0 = _
    by_cases hjk : j = k
    · subst hjk
      rw [List.getElem?_set_self (by rw [onS_len]; omega), openS_all hnd hp _ (by omega), stepS_all hnd hp (by omega)]
      rfl
    · have := perm_ne hperm (i := j) (j := k) (by omega) (by omega) hjk
      rw [List.getElem?_set_ne (by omega)]
      exact ih j (by omega)

theorem sealS_all {T : List Tm} {keys perm back : List Int} (hl : T.length ≤ 900000) (hn : inT T nw) (hk : ∀ x ∈ keys, 0 ≤ x ∧ inT T x) (hb : ∀ x ∈ back, inT T x) (hp : ∀ x ∈ perm, 0 ≤ x ∧ x < (back.length : Nat)) (hpl : perm.length = keys.length) :
    ∀ k, k ≤ keys.length → k ≤ 1000 → ∀ j, j < k → ∃ o : Nat, (sealS T keys perm back nw k).2[j]?.getD 0 = o ∧ (sealS T keys perm back nw k).1[o]? = some ⟨6, 0, [keys[j]?.getD 0, back[(perm[j]?.getD 0).toNat]?.getD 0]⟩
  | 0, _, _, j, hj => absurd hj (by omega)
  | k + 1, h1, h2, j, hj => by
    have ih := sealS_all hl hn hk hb hp hpl k (by omega) (by omega)
    obtain ⟨g, e1, e2, e3⟩ := sealS_good hl hn (fun x hx _ => (hk x hx).2) hb hp hpl k (by omega) (by omega)
    have gl := g.len
    have hkk := hk _ (getD_mem (l := keys) (k := k) (by omega))
    have hpk := hp _ (getD_mem (l := perm) (k := k) (by omega))
    have hbk := hb _ (getD_mem (l := back) (k := (perm[k]?.getD 0).toNat) (by omega))
    have ed : sealS T keys perm back nw (k + 1) = ((put (sealS T keys perm back nw k).1 ⟨6, 0, [keys[k]?.getD 0, back[(perm[k]?.getD 0).toNat]?.getD 0]⟩).1, (sealS T keys perm back nw k).2 ++ [(put (sealS T keys perm back nw k).1 ⟨6, 0, [keys[k]?.getD 0, back[(perm[k]?.getD 0).toNat]?.getD 0]⟩).2.1]) := by
      show (if 0 ≤ keys[k]?.getD 0 then _ else _) = _; rw [if_pos hkk.1]
    obtain ⟨o, f1, f2, f3⟩ := putAt (T := (sealS T keys perm back nw k).1) (err_seal (g.ext.inT hkk.2) (g.ext.inT hbk)) (by omega)
    rw [ed]
    by_cases hjk : j < k
    · obtain ⟨o', q1, q2⟩ := ih j hjk
      exact ⟨o', by rw [List.getElem?_append_left (by omega)]; exact q1, Ext.put _ _ _ _ q2⟩
    · obtain rfl : j = k := by omega
      exact ⟨o, by rw [List.getElem?_append_right (by omega), e1, Nat.sub_self]; exact f1, f3⟩
end

/-! a round -/

/-- sealed, so many times, from a server on -/
def SealC (T : List Tm) (K : List Int) : Nat → Int → Int → Prop
  | 0, y, a => y = a
  | d + 1, y, a => ∃ (o : Nat) (y' : Int), y = o ∧ T[o]? = some ⟨6, 0, [K[2 - d]?.getD 0, y']⟩ ∧ SealC T K d y' a
theorem SealC.mono {T T' : List Tm} (hE : Ext T T') {K : List Int} : ∀ {d : Nat} {y a : Int}, SealC T K d y a → SealC T' K d y a
  | 0, _, _, h => h
  | _ + 1, _, _, ⟨o, y', h1, h2, h3⟩ => ⟨o, y', h1, hE _ _ h2, h3.mono hE⟩
theorem SealC.uniq {T : List Tm} (hT : TOk T) {K : List Int} : ∀ {d : Nat} {y z a : Int}, SealC T K d y a → SealC T K d z a → y = z
  | 0, _, _, _, h, h' => by rw [show _ = _ from h, show _ = _ from h']
  | _ + 1, _, _, _, ⟨o, y', h1, h2, h3⟩, ⟨o', z', g1, g2, g3⟩ => by
    have := h3.uniq hT g3
    subst this
    rw [h1, g1, hT.once _ _ _ h2 g2]

/-- what is to be opened, onion by onion -/
structure Peels (T : List Tm) (secs : List Int) (n : Nat) (X : Nat → Nat → Int) (K : Nat → List Int) : Prop where
  peel : ∀ i, i < n → ∀ s, s < 3 → peelT T (secs[s]?.getD 0) (X i (3 - s)) = (X i (2 - s), (K i)[s]?.getD 0, 0)
  ne : ∀ i j, i < n → j < n → ∀ m, 1 ≤ m → m ≤ 3 → X i m = X j m → i = j
  key : ∀ i, i < n → ∀ s, s < 3 → inT T ((K i)[s]?.getD 0)

theorem rnd_all {T : List Tm} {nw : Int} {secs : List Int} {perms : Nat → List Int} {n : Nat} {X : Nat → Nat → Int} {K : Nat → List Int} (hX : Peels T secs n X K) : ∀ (d : Nat) {s : Nat} {st : MxS} {l : List Int} {pos : Nat → Nat}, s + d = 3 → RdIn T nw secs perms st l → T.length + 100 * d ≤ 800000 →
    (∀ j, s ≤ j → j < 3 → st.seen j = []) → Pos n pos → Plc n pos (fun i => X i d) l →
    ∃ (pos3 : Nat → Nat) (l3 : List Int), Pos n pos3 ∧ Plc n pos3 (fun i => X i 0) l3 ∧ (rndT T nw secs perms d s st l).2.1.regs = (doT T st.regs l3).1 ∧ (∀ j, j < s → (rndT T nw secs perms d s st l).2.1.seen j = st.seen j) ∧ (0 < d → (rndT T nw secs perms d s st l).2.1.seen s = l) ∧
      ∀ i, i < n → SealC (rndT T nw secs perms d s st l).1 (K i) d ((rndT T nw secs perms d s st l).2.2[pos i]?.getD 0) ((doT T st.regs l3).2[pos3 i]?.getD 0)
  | 0, s, st, l, pos, hs, h, hl, hse, hp, hpl => ⟨pos, l, hp, hpl, rfl, fun _ _ => rfl, fun h0 => absurd h0 (by omega), fun i hi => rfl⟩
  | d + 1, s, st, l, pos, hs, h, hl, hse, hp, hpl => by
    have hs3 : s < 3 := by omega
    have hln := hpl.len
    have hperm := h.permin s hs3
    have hpeel : ∀ x ∈ l, (peelT T (secs[s]?.getD 0) x).2.2 = 0 := fun x hx => by
      obtain ⟨i, hi, rfl⟩ := hpl.mem hp hx
      have := hX.peel i hi s hs3
      rw [show 3 - s = d + 1 by omega] at this
      rw [this]
    have hnd : l.Nodup := hpl.nodup hp fun i j hi hj he => hX.ne i j hi hj (d + 1) (by omega) (by omega) he
    have e0 := hse s (Nat.le_refl _) hs3
    have hop := openS_all (sec := secs[s]?.getD 0) hnd hpeel l.length (Nat.le_refl _)
    rw [List.take_length] at hop
    have hon := onS_all (nw := nw) hnd hpeel hperm l.length (Nat.le_refl _)
    have hn : RdIn T nw secs perms (seenAt st s l) (onS T (secs[s]?.getD 0) nw [] l (perms s) l.length) := by
      have hn := h.next hs3
      rw [e0, hop] at hn
      exact hn
    have hposN : Pos n fun i => ((perms s)[pos i]?.getD 0).toNat := hp.step (by rw [← hln]; exact hperm)
    have hplN : Plc n (fun i => ((perms s)[pos i]?.getD 0).toNat) (fun i => X i d) (onS T (secs[s]?.getD 0) nw [] l (perms s) l.length) := by
      refine ⟨by rw [onS_len]; exact hln, fun i hi => ?_⟩
      have h1 := hp.lt i hi
      rw [hon (pos i) (by omega), hpl.at_ i hi]
      have := hX.peel i hi s hs3
      rw [show 3 - s = d + 1 by omega, show 2 - s = d by omega] at this
      rw [this]
    obtain ⟨pos3, l3, r1, r2, r3, r4, r5, r6⟩ := rnd_all hX d (s := s + 1) (by omega) hn (by omega) (fun j hj hj3 => by show (if j = s then _ else st.seen j) = []; rw [if_neg (by omega)]; exact hse j (by omega) hj3) hposN hplN
    obtain ⟨g, q1, q2, _⟩ := rnd_good d (s := s + 1) (by omega) hn (by omega)
    have gl := g.len
    rw [onS_len] at q1
    have hfew := h.few
    have hkl : (l.map (opv T (secs[s]?.getD 0)) |>.map keyO).length = l.length := by simp
    have hkat : ∀ i, i < n → ((l.map (opv T (secs[s]?.getD 0))).map keyO)[pos i]?.getD 0 = (K i)[s]?.getD 0 := fun i hi => by
      have h1 := hp.lt i hi
      have h2 := hpl.at_ i hi
      rw [List.getElem?_eq_getElem (by omega), Option.getD_some] at h2
      rw [List.getElem?_map, List.getElem?_map, List.getElem?_eq_getElem (l := l) (i := pos i) (by omega)]
      show (peelT T (secs[s]?.getD 0) l[pos i]).2.1 = _
      rw [h2]
      have := hX.peel i hi s hs3
      rw [show 3 - s = d + 1 by omega] at this
      rw [this]
    have hkeys : ∀ x ∈ (l.map (opv T (secs[s]?.getD 0))).map keyO, 0 ≤ x ∧ inT T x := fun x hx => by
      obtain ⟨q, hq⟩ := List.getElem?_of_mem hx
      have hlt := (List.getElem?_eq_some_iff.1 hq).1
      obtain ⟨i, hi, rfl⟩ := hp.surj (q := q) (by omega)
      have h1 := hkat i hi
      rw [hq, Option.getD_some] at h1
      have := hX.key i hi s hs3
      rw [h1]
      exact ⟨this.1, this⟩
    have hsl := sealS_all (T := (rndT T nw secs perms d (s + 1) (seenAt st s l) (onS T (secs[s]?.getD 0) nw [] l (perms s) l.length)).1) (keys := (l.map (opv T (secs[s]?.getD 0))).map keyO) (perm := perms s) (back := (rndT T nw secs perms d (s + 1) (seenAt st s l) (onS T (secs[s]?.getD 0) nw [] l (perms s) l.length)).2.2)
      (by omega) (g.ext.inT h.nwin) (fun x hx => ⟨(hkeys x hx).1, g.ext.inT (hkeys x hx).2⟩) q2 (by rw [q1]; exact hperm.2.1) (by rw [hkl]; exact hperm.1) l.length (by omega) (by omega)
    obtain ⟨z, _, _, _⟩ := sealS_good (nw := nw) (T := (rndT T nw secs perms d (s + 1) (seenAt st s l) (onS T (secs[s]?.getD 0) nw [] l (perms s) l.length)).1) (keys := (l.map (opv T (secs[s]?.getD 0))).map keyO) (perm := perms s) (back := (rndT T nw secs perms d (s + 1) (seenAt st s l) (onS T (secs[s]?.getD 0) nw [] l (perms s) l.length)).2.2)
      (by omega) (g.ext.inT h.nwin) (fun x hx _ => g.ext.inT (hkeys x hx).2) q2 (by rw [q1]; exact hperm.2.1) (by rw [hkl]; exact hperm.1) l.length (by omega) (by omega)
    have ed : rndT T nw secs perms (d + 1) s st l = ((sealS (rndT T nw secs perms d (s + 1) (seenAt st s l) (onS T (secs[s]?.getD 0) nw [] l (perms s) l.length)).1 ((l.map (opv T (secs[s]?.getD 0))).map keyO) (perms s) (rndT T nw secs perms d (s + 1) (seenAt st s l) (onS T (secs[s]?.getD 0) nw [] l (perms s) l.length)).2.2 nw l.length).1,
        (rndT T nw secs perms d (s + 1) (seenAt st s l) (onS T (secs[s]?.getD 0) nw [] l (perms s) l.length)).2.1,
        (sealS (rndT T nw secs perms d (s + 1) (seenAt st s l) (onS T (secs[s]?.getD 0) nw [] l (perms s) l.length)).1 ((l.map (opv T (secs[s]?.getD 0))).map keyO) (perms s) (rndT T nw secs perms d (s + 1) (seenAt st s l) (onS T (secs[s]?.getD 0) nw [] l (perms s) l.length)).2.2 nw l.length).2) := by
      show (_, _, _) = _
      rw [e0, hop]
    rw [ed]
    refine ⟨pos3, l3, r1, r2, r3, fun j hj => ?_, fun _ => ?_, fun i hi => ?_⟩
    · refine (r4 j (by omega)).trans ?_
      show (if j = s then _ else st.seen j) = _
      rw [if_neg (by omega)]
    · refine (r4 s (by omega)).trans ?_
      show (if s = s then l else _) = l
      rw [if_pos rfl]
    · have h1 := hp.lt i hi
      obtain ⟨o, f1, f2⟩ := hsl (pos i) (by omega)
      rw [hkat i hi] at f2
      refine ⟨o, _, f1, ?_, (r6 i hi).mono z.ext⟩
      rw [show 2 - d = s by omega]
      exact f2

end Go.Proofs.YtoclhecldmahiaaDoor

/-
  What the last server does, in any order: where no two write one register, and none reads one that is written.
-/
set_option linter.unusedVariables false
set_option linter.unusedSimpArgs false
namespace Go.Proofs.YtoclhecldmahiaaDoor
open Go.Lf Go.RowKit

/-- no two write one register, and none reads one that is written -/
def SepQ (Q : List Rq) : Prop := ∀ i j, i < Q.length → j < Q.length → i ≠ j → ((rq Q i).1 = 71 ∨ (rq Q i).1 = 72) → (rq Q j).1 = 71 → rqId Q i ≠ rqId Q j
/-- what is written, among the first ones -/
def wrs (Q : List Rq) (m : Nat) : List Rg := ((List.range m).filter fun j => (rq Q j).1 == 71).map fun j => (rqId Q j, rqV Q j)
/-- what each is answered -/
def fA (none : Int) (Q : List Rq) (k : Nat) : Int := if (rq Q k).1 = 71 then rqV Q k else if (rq Q k).1 = 72 then none else if (rq Q k).1 = 73 then metT none Q k else none

theorem wrs_succ (Q : List Rq) (m : Nat) : wrs Q (m + 1) = if (rq Q m).1 = 71 then wrs Q m ++ [(rqId Q m, rqV Q m)] else wrs Q m := by
  unfold wrs
  rw [List.range_succ, List.filter_append, List.map_append]
  by_cases h : (rq Q m).1 = 71
  · rw [if_pos h, List.filter_cons_of_pos (by simp [h])]; rfl
  · rw [if_neg h, List.filter_cons_of_neg (by simp [h])]; simp
theorem wrs_mem {Q : List Rq} {m : Nat} {g : Rg} (h : g ∈ wrs Q m) : ∃ j, j < m ∧ (rq Q j).1 = 71 ∧ g = (rqId Q j, rqV Q j) := by
  unfold wrs at h
  obtain ⟨j, hj, rfl⟩ := List.mem_map.1 h
  obtain ⟨h1, h2⟩ := List.mem_filter.1 hj
  exact ⟨j, List.mem_range.1 h1, by simpa using h2, rfl⟩
theorem valT_none {none : Int} {rs : List Rg} {id : Int} (h : ∀ g ∈ rs, g.1 ≠ id) : valT none rs id = none := by
  unfold valT
  rw [List.find?_eq_none.2 fun g hg => by simpa using h g hg]
  rfl
theorem valT_end {none : Int} {rs : List Rg} {id v : Int} (h : ∀ g ∈ rs, g.1 ≠ id) : valT none (rs ++ [(id, v)]) id = v := by
  unfold valT
  rw [List.find?_append, List.find?_eq_none.2 fun g hg => by simpa using h g hg]
  simp
theorem hasId_no {rs : List Rg} {id : Int} (h : ∀ g ∈ rs, g.1 ≠ id) : hasId rs id = false := by
  unfold hasId
  rw [List.any_eq_false]
  intro g hg
  simpa using h g hg

theorem doS_sep {none : Int} {Q : List Rq} (hs : SepQ Q) : ∀ k, k ≤ Q.length → (doS none Q [] k).1 = wrs Q k ∧ (doS none Q [] k).2.length = k ∧ ∀ j, j < k → (doS none Q [] k).2[j]?.getD 0 = fA none Q j
  | 0, _ => ⟨rfl, rfl, fun j hj => absurd hj (by omega)⟩
  | k + 1, hk => by
    obtain ⟨h1, h2, h3⟩ := doS_sep hs k (by omega)
    have key : ((rq Q k).1 = 71 ∨ (rq Q k).1 = 72) → ∀ g ∈ wrs Q k, g.1 ≠ rqId Q k := fun hw g hg he => by
      obtain ⟨j, hj, hj71, rfl⟩ := wrs_mem hg
      exact hs k j (by omega) (by omega) (by omega) hw hj71 he.symm
    have ea : ansT none Q (wrs Q k) k = (wrs Q (k + 1), fA none Q k) := by
      rw [wrs_succ]
      unfold ansT fA
      by_cases h71 : (rq Q k).1 = 71
      · rw [if_pos h71, if_pos h71, if_pos h71, hasId_no (key (.inl h71))]
        simp only [Bool.false_eq_true, if_false]
        rw [valT_end (key (.inl h71))]
      · rw [if_neg h71, if_neg h71, if_neg h71]
        by_cases h72 : (rq Q k).1 = 72
        · rw [if_pos h72, if_pos h72, valT_none (key (.inr h72))]
        · rw [if_neg h72, if_neg h72]
          by_cases h73 : (rq Q k).1 = 73
          · rw [if_pos h73, if_pos h73]
          · rw [if_neg h73, if_neg h73]
    have ed : doS none Q [] (k + 1) = (wrs Q (k + 1), (doS none Q [] k).2 ++ [fA none Q k]) := by
      show ((ansT none Q (doS none Q [] k).1 k).1, (doS none Q [] k).2 ++ [(ansT none Q (doS none Q [] k).1 k).2]) = _
      rw [h1, ea]
    rw [ed]
    refine ⟨rfl, by simp [h2], fun j hj => ?_⟩
    by_cases hjk : j < k
    · rw [List.getElem?_append_left (by omega)]; exact h3 j hjk
    · obtain rfl : j = k := by omega
      rw [List.getElem?_append_right (by omega), h2, Nat.sub_self]; rfl

/-! in another order -/

section
variable {none : Int} {Q Q' : List Rq} {n : Nat} {pos : Nat → Nat}

theorem rq_pos (hl : Q.length = n) (hl' : Q'.length = n) (h : ∀ i, i < n → rq Q' (pos i) = rq Q i) {i : Nat} (hi : i < n) : rqId Q' (pos i) = rqId Q i ∧ rqV Q' (pos i) = rqV Q i := by
  unfold rqId rqV
  rw [h i hi]
  exact ⟨rfl, rfl⟩
theorem SepQ.move (hp : Pos n pos) (hl : Q.length = n) (hl' : Q'.length = n) (h : ∀ i, i < n → rq Q' (pos i) = rq Q i) (hs : SepQ Q) : SepQ Q' := by
  intro a b ha hb hne hw h71
  obtain ⟨i, hi, rfl⟩ := hp.surj (q := a) (by omega)
  obtain ⟨j, hj, rfl⟩ := hp.surj (q := b) (by omega)
  rw [h i hi] at hw
  rw [h j hj] at h71
  rw [(rq_pos hl hl' h hi).1, (rq_pos hl hl' h hj).1]
  exact hs i j (by omega) (by omega) (fun e => hne (by rw [e])) hw h71
theorem filter_pos {α : Type} (hp : Pos n pos) (P P' : Nat → Bool) (f f' : Nat → α) (hP : ∀ i, i < n → P' (pos i) = P i) (hf : ∀ i, i < n → f' (pos i) = f i) : (((List.range n).filter P').map f').Perm (((List.range n).filter P).map f) := by
  have h1 : (((List.range n).filter P').map f').Perm ((((List.range n).map pos).filter P').map f') := (hp.perm.symm.filter P').map f'
  refine h1.trans (List.Perm.of_eq ?_)
  rw [List.filter_map, List.map_map]
  have e1 : (List.range n).filter (P' ∘ pos) = (List.range n).filter P := List.filter_congr fun i hi => hP i (List.mem_range.1 hi)
  rw [e1]
  exact List.map_congr_left fun i hi => hf i (List.mem_range.1 (List.mem_filter.1 hi).1)
theorem wrs_pos (hp : Pos n pos) (hl : Q.length = n) (hl' : Q'.length = n) (h : ∀ i, i < n → rq Q' (pos i) = rq Q i) : (wrs Q' n).Perm (wrs Q n) := by
  unfold wrs
  refine filter_pos hp _ _ _ _ (fun i hi => by rw [h i hi]) fun i hi => ?_
  obtain ⟨e1, e2⟩ := rq_pos hl hl' h hi
  rw [e1, e2]
theorem metT_pos (hp : Pos n pos) (hl : Q.length = n) (hl' : Q'.length = n) (h : ∀ i, i < n → rq Q' (pos i) = rq Q i) {k : Nat} (hk : k < n) : metT none Q' (pos k) = metT none Q k := by
  have hperm : (metL Q' (pos k) Q'.length).Perm (metL Q k Q.length) := by
    rw [hl, hl']
    unfold metL
    refine filter_pos hp _ _ _ _ (fun i hi => ?_) fun i hi => (rq_pos hl hl' h hi).2
    rw [h i hi, (rq_pos hl hl' h hi).1, (rq_pos hl hl' h hk).1]
    have : decide (pos i ≠ pos k) = decide (i ≠ k) := decide_eq_decide.2 ⟨fun hh e => hh (by rw [e]), fun hh e => hh (hp.inj i k hi hk e)⟩
    rw [this]
  unfold metT
  rw [hperm.length_eq]
  by_cases h1 : (metL Q k Q.length).length = 1
  · rw [if_pos h1, if_pos h1]
    obtain ⟨y, hy⟩ := List.length_eq_one_iff.1 h1
    rw [hy] at hperm ⊢
    rw [List.perm_singleton.1 hperm]
  · rw [if_neg h1, if_neg h1]
theorem fA_pos (hp : Pos n pos) (hl : Q.length = n) (hl' : Q'.length = n) (h : ∀ i, i < n → rq Q' (pos i) = rq Q i) {k : Nat} (hk : k < n) : fA none Q' (pos k) = fA none Q k := by
  unfold fA
  rw [h k hk, (rq_pos hl hl' h hk).2, metT_pos hp hl hl' h hk]
end

/-- what the last server does with payloads in any order -/
theorem doT_pos {T : List Tm} {n : Nat} {pos : Nat → Nat} {f : Nat → Int} {l : List Int} {Q : List Rq} (hp : Pos n pos) (h : Plc n pos f l) (hl : Q.length = n) (hQ : ∀ i, i < n → rqOf (wordT T).1 (f i) = rq Q i) (hs : SepQ Q) :
    (doT T [] l).1.Perm (wrs Q n) ∧ ∀ i, i < n → (doT T [] l).2[pos i]?.getD 0 = fA (wordT T).2.1 Q i := by
  have hll := h.len
  have hl' : (l.map (rqOf (wordT T).1)).length = n := by simp [hll]
  have hr : ∀ i, i < n → rq (l.map (rqOf (wordT T).1)) (pos i) = rq Q i := fun i hi => by
    have h1 := hp.lt i hi
    have h2 := h.at_ i hi
    rw [List.getElem?_eq_getElem (by omega), Option.getD_some] at h2
    rw [← hQ i hi, ← h2]
    unfold rq
    rw [List.getElem?_map, List.getElem?_eq_getElem (by omega)]
    rfl
  obtain ⟨h1, h2, h3⟩ := doS_sep (none := (wordT T).2.1) (hs.move hp hl hl' hr) (l.map (rqOf (wordT T).1)).length (Nat.le_refl _)
  unfold doT
  rw [hl'] at h1 h2 h3
  rw [hll, h1]
  refine ⟨wrs_pos hp hl hl' hr, fun i hi => ?_⟩
  rw [h3 _ (hp.lt i hi)]
  exact fA_pos hp hl hl' hr hi

/-- a round of onions, from nothing on -/
theorem round_pos {T : List Tm} {secs l : List Int} {P : Nat → List Int} {n : Nat} {X : Nat → Nat → Int} {K : Nat → List Int} {Q : List Rq} (hl : T.length ≤ 700000) (hX : Peels (wordT T).1 secs n X K) (hin : RdIn (wordT T).1 (wordT T).2.1 secs P ⟨[], fun _ => []⟩ l) (hll : l.length = n) (hat : ∀ i, i < n → l[i]?.getD 0 = X i 3)
    (hQl : Q.length = n) (hQ : ∀ i, i < n → rqOf (wordT T).1 (X i 0) = rq Q i) (hs : SepQ Q) :
    (roundT T ⟨[], fun _ => []⟩ secs l P).2.1.regs.Perm (wrs Q n) ∧ (roundT T ⟨[], fun _ => []⟩ secs l P).2.1.seen 0 = l ∧ ∀ i, i < n → SealC (roundT T ⟨[], fun _ => []⟩ secs l P).1 (K i) 3 ((roundT T ⟨[], fun _ => []⟩ secs l P).2.2[i]?.getD 0) (fA (wordT T).2.1 Q i) := by
  obtain ⟨_, _, _, _, gw⟩ := wordT_good (T := T) (by omega)
  have gwl := gw.len
  obtain ⟨pos3, l3, r1, r2, r3, r4, r5, r6⟩ := rnd_all hX 3 (s := 0) (pos := fun i => i) rfl hin (by omega) (fun _ _ _ => rfl) (Pos.id n) ⟨hll, hat⟩
  have ew : wordT (wordT T).1 = ((wordT T).1, (wordT T).2.1, 0) := hin.word
  obtain ⟨d1, d2⟩ := doT_pos (T := (wordT T).1) r1 r2 hQl (fun i hi => by rw [ew]; exact hQ i hi) hs
  rw [ew] at d2
  refine ⟨?_, r5 (by omega), fun i hi => ?_⟩
  · show (rndT _ _ _ _ _ _ _ _).2.1.regs.Perm _
    rw [r3]
    exact d1
  · have := r6 i hi
    rw [d2 i hi] at this
    exact this

end Go.Proofs.YtoclhecldmahiaaDoor
