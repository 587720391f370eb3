/-
  Onions made one behind the other; a round of them over two arenas.
-/
import Derived.Test.YtoclhecldmahiaaDoorMyD
set_option linter.unusedVariables false
set_option linter.unusedVariables false
set_option linter.unusedSimpArgs false
namespace Go.Proofs.YtoclhecldmahiaaDoor
open Go.Lf Go.RowKit

/-- an onion: its keys, its draw, its layers, what it asks -/
structure Oi where
  K : List Int
  c : Int
  X : Nat → Int
  q : Rq
def Oi.nil : Oi := ⟨[], 0, fun _ => 0, (0, [])⟩
def PayOk (B : List Tm) (o : Oi) : Prop := ∃ x0 cw : Nat, o.X 0 = x0 ∧ B[x0]? = some ⟨9, 0, (cw : Int) :: o.q.2⟩ ∧ B[cw]? = some ⟨2, o.q.1, []⟩ ∧ rqWord o.q.1 o.q.2 = o.q ∧ 1 ≤ o.q.2.length
structure OiOk (B : List Tm) (P : List Nat) (base : Nat) (pq : List Tm → Nat → Rq → Prop) (i : Nat) (o : Oi) : Prop where
  on : OnionIn B (toI P) o.K o.c o.X
  draw : ∃ n : Nat, o.c = n ∧ B[n]? = some ⟨1, ((base + i : Nat) : Int), []⟩
  pay : PayOk B o
  law : pq B i o.q
def OnsL (B : List Tm) (P : List Nat) (base : Nat) (pq : List Tm → Nat → Rq → Prop) (os : List Oi) : Prop := ∀ (i : Nat) (o : Oi), os[i]? = some o → OiOk B P base pq i o
/-- what is so stays so -/
def Mono (pq : List Tm → Nat → Rq → Prop) : Prop := ∀ B B' i q, Ext B B' → pq B i q → pq B' i q
def onsX (os : List Oi) : List Int := os.map fun o => o.X 3
def onsQ (os : List Oi) : List Rq := os.map (·.q)
def oiK (os : List Oi) (i : Nat) : List Int := (os[i]?.getD Oi.nil).K
def oiX (os : List Oi) (i : Nat) : Nat → Int := (os[i]?.getD Oi.nil).X

section
variable {B B' : List Tm} {S P : List Nat} {base : Nat} {pq : List Tm → Nat → Rq → Prop} {os : List Oi}

theorem OiOk.mono (hm : Mono pq) (hE : Ext B B') {i : Nat} {o : Oi} (h : OiOk B P base pq i o) : OiOk B' P base pq i o := by
  obtain ⟨n, e1, e2⟩ := h.draw
  obtain ⟨x0, cw, p1, p2, p3, p4, p5⟩ := h.pay
  exact ⟨h.on.mono hE, ⟨n, e1, hE _ _ e2⟩, ⟨x0, cw, p1, hE _ _ p2, hE _ _ p3, p4, p5⟩, hm _ _ _ _ hE h.law⟩
theorem OnsL.mono (hm : Mono pq) (hE : Ext B B') (h : OnsL B P base pq os) : OnsL B' P base pq os := fun i o ho => (h i o ho).mono hm hE
theorem OnsL.nil : OnsL B P base pq [] := fun i o ho => by simp at ho
theorem OnsL.add {o : Oi} (h : OnsL B P base pq os) (ho : OiOk B P base pq os.length o) : OnsL B P base pq (os ++ [o]) := fun i o' hi => by
  rw [List.getElem?_append] at hi
  split at hi
  · exact h i o' hi
  · have := (List.getElem?_eq_some_iff.1 hi).1
    simp at this
    obtain rfl : i = os.length := by omega
    rw [Nat.sub_self] at hi
    obtain rfl := Option.some.inj hi
    exact ho
theorem OnsL.at_ (h : OnsL B P base pq os) {i : Nat} (hi : i < os.length) : OiOk B P base pq i (os[i]?.getD Oi.nil) := by
  rw [List.getElem?_eq_getElem hi]
  exact h i _ (List.getElem?_eq_getElem hi)

theorem ons_peels (hB : TOk B) (hS : SrvIn B 9000 S P 3) (h : OnsL B P base pq os) : Peels B (toI S) os.length (oiX os) (oiK os) := by
  refine peels_of hB hS (c := fun i => (os[i]?.getD Oi.nil).c) (fun i hi => (h.at_ hi).on) fun i j hi hj he => ?_
  obtain ⟨n, e1, e2⟩ := (h.at_ hi).draw
  obtain ⟨m, f1, f2⟩ := (h.at_ hj).draw
  have he : (os[i]?.getD Oi.nil).c = (os[j]?.getD Oi.nil).c := he
  rw [e1, f1] at he
  rw [nat_of_eq he] at e2
  have := some_two e2 f2
  simp only [Tm.mk.injEq, true_and, and_true] at this
  omega
theorem ons_q (h : OnsL B P base pq os) {i : Nat} (hi : i < os.length) : rqOf B (oiX os i 0) = rq (onsQ os) i := by
  obtain ⟨x0, cw, p1, p2, p3, p4, p5⟩ := (h.at_ hi).pay
  have e : oiX os i 0 = x0 := p1
  have e2 : rq (onsQ os) i = (os[i]?.getD Oi.nil).q := by
    unfold rq onsQ
    rw [List.getElem?_map, List.getElem?_eq_getElem hi]
    rfl
  rw [e, rqOf_list p2 p3 p5, e2, p4]
theorem onsX_at {i : Nat} (hi : i < os.length) : (onsX os)[i]?.getD 0 = oiX os i 3 := by
  unfold onsX oiX
  rw [List.getElem?_map, List.getElem?_eq_getElem hi]
  rfl
theorem onsX_in (h : OnsL B P base pq os) : ∀ x ∈ onsX os, inT B x := fun x hx => by
  unfold onsX at hx
  obtain ⟨o, ho, rfl⟩ := List.mem_map.1 hx
  obtain ⟨i, hi⟩ := List.getElem?_of_mem ho
  exact (h i o hi).on.xin 3 (by omega)
theorem srv_in (hS : SrvIn B 9000 S P 3) : (toI S).length = 3 ∧ ∀ x ∈ toI S, inT B x := by
  refine ⟨by rw [toI_len, hS.sl], fun x hx => ?_⟩
  unfold toI at hx
  obtain ⟨s, hs, rfl⟩ := List.mem_map.1 hx
  obtain ⟨j, hj⟩ := List.getElem?_of_mem hs
  exact inT_of (hS.sat j s hj)
end

theorem round_ext {T : List Tm} {secs l : List Int} {P : Nat → List Int} (hin : RdIn (wordT T).1 (wordT T).2.1 secs P ⟨[], fun _ => []⟩ l) (hl : T.length ≤ 600000) : Ext T (roundT T ⟨[], fun _ => []⟩ secs l P).1 ∧ (roundT T ⟨[], fun _ => []⟩ secs l P).1.length ≤ T.length + 301 ∧ (roundT T ⟨[], fun _ => []⟩ secs l P).2.2.length = l.length := by
  obtain ⟨_, _, _, _, gw⟩ := wordT_good (T := T) (by omega)
  have gwl := gw.len
  obtain ⟨g, e1, _, _⟩ := rnd_good 3 (s := 0) rfl hin (by omega)
  have gl := g.len
  exact ⟨gw.ext.trans g.ext, by show (rndT _ _ _ _ _ _ _ _).1.length ≤ _; omega, e1⟩

/-- a round of onions, over two arenas -/
theorem vround {A B : List Tm} {S P : List Nat} {base : Nat} {pq : List Tm → Nat → Rq → Prop} (hm : Mono pq) {os : List Oi} {za ya : List Int} {Z : List (Sl × List Int)} (hA : TOk A) (hB : TOk B) (hlA : A.length ≤ 500000) (hlB : B.length ≤ 500000) (hS : SrvIn B 9000 S P 3) (ho : OnsL B P base pq os) (hsep : SepQ (onsQ os)) (hn : os.length ≤ 100)
    (hz : EvL A B za (toI S)) (hy : EvL A B ya (onsX os)) (hZ : Z.length = 3) (hZp : ∀ k, k < 3 → permOk (rowP Z k) os.length) :
    wrongT A ⟨[], fun _ => []⟩ za ya (rowsP Z) = 0 ∧ ∃ (A1 B1 : List Tm) (sA sB : MxS) (outB : List Int), (roundT A ⟨[], fun _ => []⟩ za ya (rowP Z)).1 = A1 ∧ (roundT A ⟨[], fun _ => []⟩ za ya (rowP Z)).2.1 = sA ∧ TOk A1 ∧ TOk B1 ∧ Ext A A1 ∧ Ext B B1 ∧ A1.length ≤ A.length + 301 ∧ B1.length ≤ B.length + 301 ∧
      EvL A1 B1 (roundT A ⟨[], fun _ => []⟩ za ya (rowP Z)).2.2 outB ∧ outB.length = os.length ∧ RegEv A1 B1 sA.regs sB.regs ∧ sB.regs.Perm (wrs (onsQ os) os.length) ∧ sA.seen 0 = ya ∧ (∀ i, i < os.length → SealC B1 (oiK os i) 3 (outB[i]?.getD 0) (fA (wordT B).2.1 (onsQ os) i)) ∧ B1[(wordT B).2.1.toNat]? = some ⟨2, 0, []⟩ ∧ 0 ≤ (wordT B).2.1 := by
  obtain ⟨sl, sin⟩ := srv_in hS
  have xin := onsX_in ho
  have xl : (onsX os).length = os.length := by simp [onsX]
  have yl := hy.1
  have zl := hz.1
  have rA : RdIn (wordT A).1 (wordT A).2.1 za (rowP Z) ⟨[], fun _ => []⟩ ya := rdIn0 hA (by omega) (by omega) hz.inA (by rw [yl, xl]; exact hZp) hy.inA (by omega)
  have rB : RdIn (wordT B).1 (wordT B).2.1 (toI S) (rowP Z) ⟨[], fun _ => []⟩ (onsX os) := rdIn0 hB (by omega) sl sin (by rw [xl]; exact hZp) xin (by omega)
  obtain ⟨e1, e2⟩ := round_ev hA hB (by omega) (by omega) (StEv.nil A B) hz hy rA rB
  obtain ⟨xA, lA, _⟩ := round_ext rA (by omega)
  obtain ⟨xB, lB, oB⟩ := round_ext rB (by omega)
  obtain ⟨nx, n1, n2, n3, gw⟩ := wordT_good (T := B) (by omega)
  have hS1 := hS.mono gw.ext
  have ho1 := ho.mono hm gw.ext
  obtain ⟨p1, p2, p3⟩ := round_pos (by omega) (ons_peels (hB.put _) hS1 ho1) rB xl (fun i hi => onsX_at hi) (by simp [onsQ]) (fun i hi => ons_q ho1 hi) hsep
  refine ⟨wrong0 (by omega) hz.inA hZ (by rw [yl, xl]; exact hZp) hy.inA (by omega), _, _, _, _, _, rfl, rfl, round_tok hA, round_tok hB, xA, xB, lA, lB, e2, by rw [oB, xl], e1.regs, p1, ?_, p3, ?_, by rw [n1]; omega⟩
  · have hs0 := e1.seen 0 (by omega)
    rw [p2] at hs0
    exact hs0.left (round_tok hA) (hy.mono xA xB)
  · rw [n1, Int.toNat_natCast]
    have : Ext (wordT B).1 (roundT B ⟨[], fun _ => []⟩ (toI S) (onsX os) (rowP Z)).1 := by
      obtain ⟨g, _, _, _⟩ := rnd_good 3 (s := 0) rfl rB (by have := gw.len; omega)
      exact g.ext
    exact this _ _ n3

end Go.Proofs.YtoclhecldmahiaaDoor

/-
  The page's terms on a pair; a round on a pair; rows that come in.
-/
set_option linter.unusedVariables false
set_option linter.unusedSimpArgs false
namespace Go.Proofs.YtoclhecldmahiaaDoor
open Go.Lf Go.RowKit

section
variable {W w w' : World} {pp a b : Addr} {A B : List Tm} {n : Nat} {R L : List Asn}

theorem pmk0 (h : PairAt W w pp a b A B n R) (hn : n ≤ 500000) {k N : Int} (hk : k = 1 ∨ k = 2) (h0 : 0 ≤ N) (h1 : N ≤ 1000000) :
    CallsV Tryd.prog n_trystref10_Arena_Make #[.pointer (some b), .int .i64 k, .int .i64 N, .slice none 0 0] w fun v w' => ∃ (x : Nat) (B' : List Tm), v = .int .i64 x ∧ B'[x]? = some ⟨k, N, []⟩ ∧ Ext B B' ∧ PairAt W w' pp a b A B' (n + 1) R := by
  obtain ⟨M, h3, hp, hnb, l1, l2⟩ := h.toB
  refine (rmk0 k N h3).mono ?_
  rintro _ w3 ⟨rfl, h4⟩
  obtain ⟨x, x1, x2, x3, gx⟩ := put_plain' (T := B) (k := k) (n := N) hk h0 (by omega) (by omega)
  exact ⟨x, _, by rw [x1], x3, gx.ext, PairAt.ofB h4 hp gx.ext gx.len (gx.nb hnb) l1 l2⟩
theorem pword (h : PairAt W w pp a b A B n R) (hn : n ≤ 500000) {N : Int} (h0 : 0 ≤ N) (h1 : N ≤ 1000000) :
    CallsV Tryd.prog n_trystref10_Arena_Word #[.pointer (some b), .int .i64 N] w fun v w' => ∃ (x : Nat) (B' : List Tm), v = .int .i64 x ∧ B'[x]? = some ⟨2, N, []⟩ ∧ Ext B B' ∧ PairAt W w' pp a b A B' (n + 1) R := by
  obtain ⟨M, h3, hp, hnb, l1, l2⟩ := h.toB
  refine (rword N h3).mono ?_
  rintro _ w3 ⟨rfl, h4⟩
  obtain ⟨x, x1, x2, x3, gx⟩ := put_plain' (T := B) (k := 2) (n := N) (.inr rfl) h0 (by omega) (by omega)
  exact ⟨x, _, by rw [x1], x3, gx.ext, PairAt.ofB h4 hp gx.ext gx.len (gx.nb hnb) l1 l2⟩
theorem plist (args : List Int) (h : PairAt W w pp a b A B n R) (hn : n ≤ 500000) (hl : args.length ≤ 100) (hx : ∀ x ∈ args, inT B x) :
    CallsV Tryd.prog n_trystref10_Arena_Make #[.pointer (some b), .int .i64 9, .int .i64 0, .slice (some (newA w)) args.length args.length] (w.alloc (.cells (args.map (Value.int .i64)).toArray 3)) fun v w' =>
      ∃ (x : Nat) (B' : List Tm), v = .int .i64 x ∧ B'[x]? = some ⟨9, 0, args⟩ ∧ Ext B B' ∧ PairAt W w' pp a b A B' (n + 1) R := by
  obtain ⟨M, h3, hp, hnb, l1, l2⟩ := h.toB
  refine (rmk 9 0 args h3 (by omega)).mono ?_
  rintro _ w3 ⟨rfl, h4⟩
  obtain ⟨x, x1, x2, x3, gx⟩ := put_list (T := B) (xs := args) (by omega) hx (by omega)
  exact ⟨x, _, by rw [x1], x3, gx.ext, PairAt.ofB h4 hp gx.ext gx.len (gx.nb hnb) l1 l2⟩
theorem ppub (h : PairAt W w pp a b A B n R) (hn : n ≤ 500000) {s : Nat} (hs : inT B (s : Int)) :
    CallsV Tryd.prog n_trystref10_Arena_Pub #[.pointer (some b), .int .i64 s] w fun v w' => ∃ (x : Nat) (B' : List Tm), v = .int .i64 x ∧ B'[x]? = some ⟨5, 0, [(s : Int)]⟩ ∧ Ext B B' ∧ PairAt W w' pp a b A B' (n + 1) R := by
  obtain ⟨M, h3, hp, hnb, l1, l2⟩ := h.toB
  refine (rpub s h3).mono ?_
  rintro _ w3 ⟨rfl, h4⟩
  obtain ⟨x, x1, x2, x3, gx⟩ := put_pub hs (by omega)
  exact ⟨x, _, by rw [x1], x3, gx.ext, PairAt.ofB h4 hp gx.ext gx.len (gx.nb hnb) l1 l2⟩
theorem pwrap (h : PairAt W w pp a b A B n R) (hn : n ≤ 500000) {S P : List Nat} (hS : SrvIn B 9000 S P 3) {s : Sl} {c x : Nat} (hc : inT B c) (hx : inT B x) (hI : ∀ L w', At W w' (L ++ R) → Ints .i64 w' s (toI P)) :
    CallsV Tryd.prog n_trystref22_Wrap #[.pointer (some b), .slice s.a s.len s.cap, .int .i64 c, .int .i64 x] w fun v w' => ∃ (s' : Sl) (K : List Int) (X : Nat → Int) (B' : List Tm), v = .tuple #[.int .i64 (X 3), .slice s'.a s'.len s'.cap] ∧ X 0 = x ∧ OnionIn B' (toI P) K c X ∧ Ext B B' ∧ PairAt W w' pp a b A B' (n + 9) (ownA s' K :: R) := by
  obtain ⟨M, h3, hp, hnb, l1, l2⟩ := h.toB
  obtain ⟨pl, pk⟩ := hS.pubs
  have he : wrapErr B (toI P) c x = 0 := wrapErr0.2 ⟨pl, fun z hz => (pk z hz).1, hc, hx, fun z hz => (pk z hz).2⟩
  refine (rwrap_at h3 (sp := s) (pubs := toI P) he (by omega) (fun L w' hw => hI (L ++ [_, _]) w' (by rw [List.append_assoc]; exact hw))).mono ?_
  rintro _ w5 ⟨s', rfl, h8⟩
  obtain ⟨X, x0, eX, hO, g3⟩ := wrap_in he (by omega)
  rw [← eX]
  have h9 : At W w5 (pgT b (wrapT B (toI P) c x).1 :: prA pp a b M :: arT a A :: (ownA s' (wrapT B (toI P) c x).2.2 :: R)) := h8.perm (List.perm_middle (l₁ := [_, _, _]) (a := ownA s' (wrapT B (toI P) c x).2.2)).symm
  exact ⟨s', _, X, _, rfl, x0, hO, g3.ext, PairAt.ofB h9 hp g3.ext g3.len (g3.nb hnb) l1 l2⟩

theorem PairAt.mrows (h : PairAt W w pp a b A B n R) (k : Nat) {sp : Sl} {Z : List (Sl × List Int)} (hk : R[k]? = some (rowsA sp Z)) (hl : Z.length ≤ 100000) (t : Sl) (ys : List Int) :
    ∃ (s' : Sl) (w' : World), (builtin .append #[128, 128] 128 #[] #[.slice sp.a sp.len sp.cap, .slice (some (newA w)) 1 1]).run Tryd.prog (w.alloc (.cells #[.slice t.a t.len t.cap] 29)) = .ok (.value (.slice s'.a s'.len s'.cap)) w' ∧ PairAt W w' pp a b A B n (R.set k (rowsA s' (Z ++ [(t, ys)]))) := by
  obtain ⟨M, h1, hr⟩ := h
  obtain ⟨s', w', r, h2⟩ := rows_more (k + 3) (by simpa using hk) h1 t ys hl
  exact ⟨s', w', r, M, h2, hr⟩
theorem PairAt.mread (h : PairAt W w pp a b A B n R) (k : Nat) {s : Sl} {xs : List Int} (hk : R[k]? = some (ownA s xs)) (hx : xs.length ≤ 1000000000) : Ints .i64 w s xs := by
  obtain ⟨M, h1, _⟩ := h
  exact rowNow (k + 3) (by simpa using hk) h1.s (by omega)
end

set_option maxRecDepth 100000 in
/-- rows of numbers that come in -/
theorem rowsw_in {H : Type} {enc : TypeId × Value → H} {w : World} {base b0 : Nat} {r : Reach} {sp : Nat → Bool} {held : Bool} {v : Value} {d : DataW H} {ps : List MemPlace} (hv : Value.okWide Tryd.prog w r b0 128 v)
    (h : DataW.Trod enc Tryd.prog w base sp held 128 v d ps) : ∃ (s : Sl) (Z : List (Sl × List Int)), v = .slice s.a s.len s.cap ∧ Rw w s Z := by
  obtain ⟨a, len, cap, rfl⟩ := WideShapes.okWide_slice Tryd.underlying128 hv
  obtain ⟨l, s, e, hg⟩ := (reads_slice Tryd.underlying128 (n := 1) (by kernel_rfl) (by omega) (reads_ints Tryd.underlying29 Tryd.underlying3 (by kernel_rfl)) fun _ _ _ h => by obtain ⟨m, rfl, _⟩ := h; rfl).open h
  have e : [Value.slice a len cap] = [.slice s.a s.len s.cap] := e
  have key : ∀ i x, l[i]? = some x → ∃ t : Sl, ∃ q, s.a = some q ∧ w.cell? (q.add i) = some (.slice t.a t.len t.cap) ∧ Ints .i64 w t x := by
    intro i x hx
    obtain ⟨q, cs, hq, _, hc, t, he, hI⟩ := hg.el i x hx
    subst he
    have := hc 0 _ rfl
    rw [Nat.add_zero, Nat.mul_one] at this
    exact ⟨t, q, hq, this, hI⟩
  let f : Nat → Sl := fun i => if h : i < l.length then (key i _ (List.getElem?_eq_getElem h)).choose else ⟨none, 0, 0⟩
  refine ⟨s, (List.range l.length).map fun i => (f i, l[i]?.getD []), by simpa using e, by simp [hg.len], fun i z hz => ?_⟩
  have hi := (List.getElem?_eq_some_iff.1 hz).1
  simp at hi
  rw [List.getElem?_map, List.getElem?_range hi] at hz
  obtain rfl := Option.some.inj hz
  have hk := (key i _ (List.getElem?_eq_getElem hi)).choose_spec
  have ef : f i = (key i _ (List.getElem?_eq_getElem hi)).choose := by show (if h : i < l.length then _ else _) = _; rw [dif_pos hi]
  obtain ⟨q, hq, h1, h2⟩ := hk
  rw [← ef] at h1 h2
  refine ⟨q, hq, h1, ?_⟩
  show Ints .i64 w (f i) (l[i]?.getD [])
  rw [List.getElem?_eq_getElem hi]
  exact h2

/-- rows that came in stay -/
theorem Rw.at2 {w : World} {s : Sl} {Z : List (Sl × List Int)} (h : Rw w s Z) {i : Nat} (hi : i < Z.length) : ∃ q, s.a = some q ∧ w.cell? (q.add i) = some (.slice Z[i].1.a Z[i].1.len Z[i].1.cap) ∧ Ints .i64 w Z[i].1 Z[i].2 := h.cell i _ (List.getElem?_eq_getElem hi)

end Go.Proofs.YtoclhecldmahiaaDoor
