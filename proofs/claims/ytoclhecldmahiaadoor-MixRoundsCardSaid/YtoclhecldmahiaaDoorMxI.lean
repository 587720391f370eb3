/-
  What is asked, and registers, over a pair of arenas: contracts.
-/
import Derived.Test.YtoclhecldmahiaaDoorMxG
import Derived.Test.YtoclhecldmahiaaDoorMxE0
import Derived.Test.YtoclhecldmahiaaDoorM2Fns
set_option linter.unusedVariables false
set_option linter.unusedVariables false
set_option linter.unusedSimpArgs false
namespace Go.Proofs.YtoclhecldmahiaaDoor
open Go.Lf Go.RowKit

/-! how they come in -/

structure AskI where
  kind : Int
  a : Int
  b : Int
  raw : Bool
def AskC (_ : World) (cs : List Value) (x : AskI) : Prop := cs = [.int .i64 x.kind, .int .i64 x.a, .int .i64 x.b, .bool x.raw] ∧ x.kind ≤ 9223372036854775807
abbrev Asks (w : World) (s : Sl) (l : List AskI) : Prop := Els 4 AskC w s l
theorem AskC.stab : Stab AskC := fun _ _ _ _ _ h => h
theorem AskC.len {w : World} {cs : List Value} {a : AskI} (h : AskC w cs a) : cs.length = 4 := by rw [h.1]; rfl
theorem Asks.get {w : World} {s : Sl} {l : List AskI} (h : Asks w s l) {i : Nat} (hi : i < l.length) : ∃ p, s.a = some p ∧ w.cell? (p.add (i * 4)) = some (.int .i64 l[i].kind) ∧ w.cell? ((p.add (i * 4)).add 1) = some (.int .i64 l[i].a) ∧ w.cell? ((p.add (i * 4)).add 2) = some (.int .i64 l[i].b) ∧ w.cell? ((p.add (i * 4)).add 3) = some (.bool l[i].raw) ∧ l[i].kind ≤ 9223372036854775807 := by
  obtain ⟨p, cs, hp, _, hc, he, hk⟩ := h.el i _ (List.getElem?_eq_getElem hi)
  subst he
  refine ⟨p, hp, ?_, ?_, ?_, ?_, hk⟩
  · have := hc 0 _ rfl; rwa [Nat.add_zero] at this
  · rw [add_add]; exact hc 1 _ rfl
  · rw [add_add]; exact hc 2 _ rfl
  · rw [add_add]; exact hc 3 _ rfl

set_option maxRecDepth 100000 in
theorem reads_ask : Reads Tryd.prog 68 AskC := by
  constructor
  intro H enc w base sp held fuel cs x h
  obtain ⟨hl, n, hf⟩ := struct_fields Tryd.underlying68 h
  have hl : cs.length = 4 := hl
  match cs, hl with
  | [c0, c1, c2, c3], _ =>
    simp only [List.mem_cons, List.not_mem_nil, or_false, forall_eq_or_imp, forall_eq] at hf
    obtain ⟨⟨y0, h0⟩, ⟨y1, h1⟩, ⟨y2, h2⟩, ⟨y3, h3⟩⟩ := hf
    obtain ⟨m0, e0, w0⟩ := (reads_int Tryd.underlying3).go (cs := [c0]) h0
    obtain ⟨m1, e1, w1⟩ := (reads_int Tryd.underlying3).go (cs := [c1]) h1
    obtain ⟨m2, e2, w2⟩ := (reads_int Tryd.underlying3).go (cs := [c2]) h2
    obtain ⟨m3, e3⟩ := (reads_bool Tryd.underlying4).go (cs := [c3]) h3
    have e3 : [c3] = [Value.bool m3] := e3
    simp only [List.cons.injEq, and_true] at e0 e1 e2 e3
    subst e0 e1 e2 e3
    exact ⟨⟨m0, m1, m2, m3⟩, rfl, (wf_two w0).2⟩

/-! what is asked, on the page's arena -/

theorem Grown.up {T T' : List Tm} {i j : Nat} (h : Grown T T' i) (hij : i ≤ j) : Grown T T' j := ⟨h.ext, Nat.le_trans h.len (by omega), h.nb⟩

section
variable {W w w' : World} {L R : List Asn} {p pp a b : Addr} {A B T : List Tm} {n : Nat}

theorem At.less (k : Nat) {X : Asn} (hk : L[k]? = some X) (h : At W w L) : At W w (L.eraseIdx k) := ⟨h.s.less k hk, h.b, h.t⟩

theorem pgCell (h : At W w (pgT p T :: R)) : ∃ a c, w.cell? p = some (.slice a T.length c) := by
  obtain ⟨N, hN, hs⟩ := Sep.pgOut h.s
  obtain ⟨ba, bc, hc, _⟩ := pg_at hs
  have : N.length = T.length := by rw [← terms_len, hN]
  rw [this] at hc
  exact ⟨ba, bc, hc⟩

theorem ask_b (h : At W w (pgT p T :: R)) (x : AskI) (hk : x.kind ≤ 9223372036854775807) :
    CallsV Tryd.prog n_trystlaw24_ask #[.pointer (some p), .agg #[.int .i64 x.kind, .int .i64 x.a, .int .i64 x.b, .bool x.raw]] w fun v w' => ∃ (y : Int) (T' : List Tm), v = .int .i64 y ∧ At W w' (pgT p T' :: R) ∧ Grown T T' 2 := by
  refine trystlaw24_ask.lift ?_
  unfold trystlaw24_ask.main
  generalize hRR : (fun (v : Value) (w' : World) => ∃ (y : Int) (T' : List Tm), v = .int .i64 y ∧ At W w' (pgT p T' :: R) ∧ Grown T T' 2) = RR
  intro w1
  have h1 : At W w1 (boxA (newA w) [.int .i64 x.kind, .int .i64 x.a, .int .i64 x.b, .bool x.raw] :: pgT p T :: R) := h.box 68 [.int .i64 x.kind, .int .i64 x.a, .int .i64 x.b, .bool x.raw]
  clear_value w1
  generalize newA w = xb at h1 ⊢
  have h1 : At W w1 (pgT p T :: boxA xb [.int .i64 x.kind, .int .i64 x.a, .int .i64 x.b, .bool x.raw] :: R) := h1.swap
  obtain ⟨ba, bc, hc⟩ := pgCell h1
  refine ⟨p, rfl, _, _, _, hc, _, h1.s.cell 1 rfl 1 rfl, _, h1.s.cell 1 rfl 2 rfl, ?_⟩
  intro w2
  have h2 : At W w2 (ownA ⟨some (newA w1), 2, 2⟩ [x.a, x.b] :: pgT p T :: boxA xb [.int .i64 x.kind, .int .i64 x.a, .int .i64 x.b, .bool x.raw] :: R) := h1.row [x.a, x.b] (by simp)
  clear_value w2
  refine (some_spec (s := ⟨some (newA w1), 2, 2⟩) (xs := [x.a, x.b]) (rowNow 0 rfl h2.s (by simp)) (by simp) (T.length : Int)).mono ?_
  rintro _ w3 ⟨s3, rfl, ho, hb⟩
  have h3 := (h2.own ho hb)
  obtain ⟨ya, yb, hy⟩ : ∃ ya yb, someI [x.a, x.b] (T.length : Int) = [ya, yb] := ⟨_, _, rfl⟩
  rw [hy] at h3
  have h3 : At W w3 (ownA s3 [ya, yb] :: pgT p T :: boxA xb [.int .i64 x.kind, .int .i64 x.a, .int .i64 x.b, .bool x.raw] :: R) := h3.less 1 rfl
  have hs3 : s3.len = 2 := h3.numLen 0 rfl
  have hl0 : (0 : Int) < ((s3.len : Nat) : Int) := by omega
  have hl1 : (1 : Int) < ((s3.len : Nat) : Int) := by omega
  have c2 : ∀ {w' : World}, At W w' (ownA s3 [ya, yb] :: pgT p T :: boxA xb [.int .i64 x.kind, .int .i64 x.a, .int .i64 x.b, .bool x.raw] :: R) → trystlaw24_ask.c2 RR s3 w' := by
    intro w' h'
    unfold trystlaw24_ask.c2
    obtain ⟨q, hq, hc⟩ := h'.num 0 rfl (i := 0) (by simp)
    refine ⟨by omega, by omega, q, hq, _, hc, ?_⟩
    rw [← hRR]
    have h4 := h'.drop.less 1 rfl
    exact ⟨_, T, rfl, h4, (Grown.refl T).up (by omega)⟩
  refine ⟨_, _, _, rfl, _, h3.s.cell 2 rfl 3 rfl, cond_c (fun _ => c2 h3) fun _ => ⟨_, h3.s.cell0 2 rfl rfl, cond_d (fun _ => c2 h3) fun hpos => ?_⟩⟩
  refine (rhas_at (h3.front 1 rfl) (s := s3) (xs := [ya, yb]) (rowNow 0 rfl h3.s (by simp))).mono ?_
  rintro _ w4 ⟨rfl, hsame⟩
  have h4 := h3.same hsame
  refine ⟨_, rfl, cond_not (fun _ => c2 h4) fun hin => ?_⟩
  unfold trystlaw24_ask.c1
  have num0 : ∀ {y : World} {L : List Asn}, At W y (L ++ ownA s3 [ya, yb] :: R) → ∃ q, s3.a = some q ∧ y.cell? (q.add (0 : Int).toNat) = some (.int .i64 ya) ∧ y.cell? (q.add (1 : Int).toNat) = some (.int .i64 yb) := by
    intro y L hy
    have hy := hy.dropL
    obtain ⟨q, hq, hc⟩ := hy.num 0 rfl (i := 0) (by simp)
    obtain ⟨q', hq', hc'⟩ := hy.num 0 rfl (i := 1) (by simp)
    rw [hq] at hq'
    obtain rfl := Option.some.inj hq'
    exact ⟨q, hq, hc, hc'⟩
  have h5 : At W w4 (pgT p T :: boxA xb [.int .i64 x.kind, .int .i64 x.a, .int .i64 x.b, .bool x.raw] :: ownA s3 [ya, yb] :: R) := (h4.perm (by
    refine (List.perm_append_comm (l₁ := [ownA s3 [ya, yb]]) (l₂ := [pgT p T, boxA xb [.int .i64 x.kind, .int .i64 x.a, .int .i64 x.b, .bool x.raw]])).append_right R))
  have h6 := h5.drew
  obtain ⟨q, hq, n0, n1⟩ := num0 (L := [_, _]) h6
  have cells : ∀ {y : World} {T' : List Tm}, At W y (pgT p T' :: boxA xb [.int .i64 x.kind, .int .i64 x.a, .int .i64 x.b, .bool x.raw] :: ownA s3 [ya, yb] :: R) → y.cell? xb = some (.int .i64 x.kind) ∧ y.cell? (q.add (0 : Int).toNat) = some (.int .i64 ya) ∧ y.cell? (q.add (1 : Int).toNat) = some (.int .i64 yb) := by
    intro y T' hy
    obtain ⟨q', hq', d0, d1⟩ := num0 (L := [_, _]) hy
    rw [hq] at hq'
    obtain rfl := Option.some.inj hq'
    exact ⟨hy.s.cell0 1 rfl rfl, d0, d1⟩
  have done : ∀ {w' : World} {T' : List Tm} {y : Int}, At W w' (pgT p T' :: boxA xb [.int .i64 x.kind, .int .i64 x.a, .int .i64 x.b, .bool x.raw] :: ownA s3 [ya, yb] :: R) → Grown T T' 2 → RR (.int .i64 y) w' := by
    intro w' T' y h' hg
    rw [← hRR]
    have h4 := (h'.less 2 rfl).less 1 rfl
    exact ⟨y, T', rfl, h4, hg⟩
  refine ⟨_, h5.s.cell0 1 rfl rfl, cond_e (fun h72 => ?_) fun h72 => ?_⟩
  · refine ⟨fun y => y.cell? xb = some (.int .i64 x.kind) ∧ y.cell? (q.add (0 : Int).toNat) = some (.int .i64 ya) ∧ y.cell? (q.add (1 : Int).toNat) = some (.int .i64 yb), cells h6, by decide, hl0, q, hq, _, fun y hy => hy.2.1, (rword 72 h6).mono ?_⟩
    rintro _ w7 ⟨rfl, h7⟩
    refine ⟨_, rfl, cells h7, ?_⟩
    intro w8
    refine (rmk 9 0 [(put T ⟨2, 72, []⟩).2.1, ya] h7 (by simp)).mono ?_
    rintro _ w9 ⟨rfl, h9⟩
    exact ⟨_, rfl, done h9 ((Grown.put T (by simp)).trans (Grown.put _ (by simp)))⟩
  · refine ⟨fun y => y.cell? xb = some (.int .i64 x.kind) ∧ y.cell? (q.add (0 : Int).toNat) = some (.int .i64 ya) ∧ y.cell? (q.add (1 : Int).toNat) = some (.int .i64 yb), cells h6, _, fun y hy => hy.1, by decide, hl0, q, hq, _, fun y hy => hy.2.1, by decide, hl1, q, hq, _, fun y hy => hy.2.2, (rword _ h6).mono ?_⟩
    rintro _ w7 ⟨rfl, h7⟩
    refine ⟨_, rfl, cells h7, ?_⟩
    intro w8
    refine (rmk 9 0 [(put T ⟨2, x.kind, []⟩).2.1, ya, yb] h7 (by simp)).mono ?_
    rintro _ w9 ⟨rfl, h9⟩
    exact ⟨_, rfl, done h9 ((Grown.put T hk).trans (Grown.put _ (by simp)))⟩

theorem ask_at (h : PairAt W w pp a b A B n R) (x : AskI) (hk : x.kind ≤ 9223372036854775807) :
    CallsV Tryd.prog n_trystlaw24_ask #[.pointer (some b), .agg #[.int .i64 x.kind, .int .i64 x.a, .int .i64 x.b, .bool x.raw]] w fun v w' => ∃ (y : Int) (B' : List Tm), v = .int .i64 y ∧ PairAt W w' pp a b A B' (n + 2) R ∧ Grown B B' 2 := by
  obtain ⟨M, h1, hp, hnb, l1, l2⟩ := h.toB
  refine (ask_b h1 x hk).mono ?_
  rintro _ w' ⟨y, B', rfl, h', hg⟩
  exact ⟨y, B', rfl, PairAt.ofB h' hp hg.ext hg.len (hg.nb hnb) l1 l2, hg⟩

/-! registers in the other arena -/

def RegRel (A B : List Tm) (ra rb : List Rg) : Prop := ra.length = rb.length ∧ ∀ (i : Nat) (x y : Rg), ra[i]? = some x → rb[i]? = some y → Rel A B x.1 y.1 ∧ Rel A B x.2 y.2
theorem RegRel.mono {A' : List Tm} (hA : Ext A A') {ra rb : List Rg} (h : RegRel A B ra rb) : RegRel A' B ra rb := ⟨h.1, fun i x y hx hy => ⟨(h.2 i x y hx hy).1.mono hA, (h.2 i x y hx hy).2.mono hA⟩⟩
theorem RegRel.ev {ra rb : List Rg} (h : RegRel A B ra rb) (hi : ∀ r ∈ rb, inT B r.1 ∧ inT B r.2) : RegEv A B ra rb :=
  ⟨h.1, fun i x y hx hy => ⟨(h.2 i x y hx hy).1.ev (hi y (List.mem_of_getElem? hy)).1, (h.2 i x y hx hy).2.ev (hi y (List.mem_of_getElem? hy)).2⟩⟩
theorem RegRel.inA {ra rb : List Rg} (h : RegRel A B ra rb) : (∀ r ∈ ra, inT A r.1 ∧ inT A r.2) ↔ ∀ r ∈ rb, inT B r.1 ∧ inT B r.2 := by
  have hl := h.1
  constructor
  · intro hh r hr
    obtain ⟨q, hq⟩ := List.getElem?_of_mem hr
    have := (List.getElem?_eq_some_iff.1 hq).1
    obtain ⟨e1, e2⟩ := h.2 q _ r (List.getElem?_eq_getElem (by omega)) hq
    have := hh _ (List.getElem_mem (by omega : q < ra.length))
    exact ⟨e1.inT.1 this.1, e2.inT.1 this.2⟩
  · intro hh r hr
    obtain ⟨q, hq⟩ := List.getElem?_of_mem hr
    have := (List.getElem?_eq_some_iff.1 hq).1
    obtain ⟨e1, e2⟩ := h.2 q r _ hq (List.getElem?_eq_getElem (by omega))
    have := hh _ (List.getElem_mem (by omega : q < rb.length))
    exact ⟨e1.inT.2 this.1, e2.inT.2 this.2⟩
theorem RelL.inA {la lb : List Int} (h : RelL A B la lb) : (∀ x ∈ la, inT A x) ↔ ∀ x ∈ lb, inT B x := by
  have hl := h.1
  constructor
  · intro hh r hr
    obtain ⟨q, hq⟩ := List.getElem?_of_mem hr
    have := (List.getElem?_eq_some_iff.1 hq).1
    exact (h.2 q _ r (List.getElem?_eq_getElem (by omega)) hq).inT.1 (hh _ (List.getElem_mem (by omega : q < la.length)))
  · intro hh r hr
    obtain ⟨q, hq⟩ := List.getElem?_of_mem hr
    have := (List.getElem?_eq_some_iff.1 hq).1
    exact (h.2 q r _ hq (List.getElem?_eq_getElem (by omega))).inT.2 (hh _ (List.getElem_mem (by omega : q < lb.length)))

theorem regsP_at (h : PairAt W w pp a b A B n R) (hn : n ≤ 900000) {s : Sl} {rs : List Rg} (hl : rs.length ≤ 100000) (hR : ∀ L w', At W w' (L ++ R) → Regs w' s rs) :
    CallsV Tryd.prog n_trystlaw24_regs #[.pointer (some pp), .slice s.a s.len s.cap] w fun v w' => ∃ (s' : Sl) (rs' : List Rg) (A' : List Tm), v = .slice s'.a s'.len s'.cap ∧ PairAt W w' pp a b A' B n (regA s' rs' :: R) ∧ Ext A A' ∧ RegRel A' B rs' rs := by
  refine trystlaw24_regs.lift ?_
  unfold trystlaw24_regs.main trystlaw24_regs.l1
  have h0 : PairAt W w pp a b A B n (regA ⟨none, 0, 0⟩ [] :: R) := h.onR fun M h1 => ((h1.regNil.front 3 rfl).front 3 rfl).front 3 rfl
  have hlen : s.len = rs.length := by obtain ⟨M, h1, _⟩ := h; exact (hR [_, _, _] w h1).len
  refine ⟨fun t w' => ∃ (k : Nat) (rs' : List Rg) (A' : List Tm), t.2 = k ∧ k ≤ rs.length ∧ PairAt W w' pp a b A' B n (regA t.1 rs' :: R) ∧ Ext A A' ∧ RegRel A' B rs' (rs.take k), fun t _ => rs.length - t.2.toNat, ⟨0, [], A, rfl, Nat.zero_le _, h0, Ext.refl _, rfl, by simp⟩, ?_⟩
  clear h0 h
  rintro ⟨so, _⟩ w1 ⟨k, rs', A1, rfl, hk, h1, hE, hr⟩
  show trystlaw24_regs.b1 _ _ (some pp) s so (k : Int) w1
  unfold trystlaw24_regs.b1
  refine cond_d (p := ((k : Nat) : Int) < ((s.len : Nat) : Int)) (fun hlt => ?_) fun hge => ?_
  · have hkl : k < rs.length := by omega
    have hrl := hr.1
    rw [List.length_take, Nat.min_eq_left hk] at hrl
    have cells : ∀ {y : World} {A' : List Tm}, PairAt W y pp a b A' B n (regA so rs' :: R) → ∃ q, s.a = some q ∧ y.cell? (q.add ((k : Int).toNat * 2)) = some (.int .i64 rs[k].1) ∧ y.cell? ((q.add ((k : Int).toNat * 2)).add 1) = some (.int .i64 rs[k].2) := by
      intro y A' hy
      obtain ⟨M, hy, _⟩ := hy
      rw [Int.toNat_natCast]
      exact (hR [_, _, _, _] y hy).cell k rs[k] (List.getElem?_eq_getElem hkl)
    have h2 := h1.drew
    obtain ⟨q, hq, c1, c2⟩ := cells h2
    have cells' : ∀ {y : World} {A' : List Tm}, PairAt W y pp a b A' B n (regA so rs' :: R) → y.cell? (q.add ((k : Int).toNat * 2)) = some (.int .i64 rs[k].1) ∧ y.cell? ((q.add ((k : Int).toNat * 2)).add 1) = some (.int .i64 rs[k].2) := by
      intro y A' hy
      obtain ⟨q', hq', d1, d2⟩ := cells hy
      rw [hq] at hq'
      obtain rfl := Option.some.inj hq'
      exact ⟨d1, d2⟩
    refine ⟨fun y => y.cell? (q.add ((k : Int).toNat * 2)) = some (.int .i64 rs[k].1) ∧ y.cell? ((q.add ((k : Int).toNat * 2)).add 1) = some (.int .i64 rs[k].2), ⟨c1, c2⟩, by omega, by omega, q, hq, _, fun y hy => hy.1, by omega, by omega, q, hq, _, fun y hy => hy.2, (pT_at h2 hn _).mono ?_⟩
    rintro _ w3 ⟨i1, A2, rfl, h3, hE2, hr1⟩
    refine ⟨_, rfl, cells' h3, (pT_at h3 hn _).mono ?_⟩
    rintro _ w4 ⟨i2, A3, rfl, h4, hE3, hr2⟩
    refine ⟨_, rfl, ?_⟩
    intro w5
    obtain ⟨M, h4', hp, hnb, l1, l2⟩ := h4
    obtain ⟨s6, w6, r6, h6⟩ := reg_more 3 rfl h4' (i1, i2) (by omega)
    refine ⟨_, _, _, w6, r6, ?_⟩
    dsimp only
    rw [inc (by omega)]
    refine ⟨⟨rfl, rfl, k + 1, rs' ++ [(i1, i2)], A3, rfl, by omega, ⟨M, h6, hp, hnb, l1, l2⟩, (hE.trans hE2).trans hE3, ?_⟩, by omega⟩
    rw [List.take_succ_eq_append_getElem hkl]
    refine ⟨by rw [List.length_append, List.length_append, List.length_take, Nat.min_eq_left hk, hrl]; rfl, fun i x y hx hy => ?_⟩
    rw [List.getElem?_append] at hx hy
    have htl : (rs.take k).length = k := by rw [List.length_take]; omega
    by_cases hi : i < rs'.length
    · rw [if_pos hi] at hx
      rw [if_pos (by omega)] at hy
      obtain ⟨e1, e2⟩ := hr.2 i x y hx hy
      exact ⟨e1.mono (hE2.trans hE3), e2.mono (hE2.trans hE3)⟩
    · rw [if_neg hi] at hx
      rw [if_neg (by omega)] at hy
      have := (List.getElem?_eq_some_iff.1 hx).1
      simp at this
      have e : i = k := by omega
      subst e
      rw [hrl, Nat.sub_self] at hx
      rw [htl, Nat.sub_self] at hy
      simp at hx hy
      subst hx hy
      exact ⟨hr1.mono hE3, hr2⟩
  · rw [List.take_of_length_le (by omega)] at hr
    exact ⟨so, rs', A1, rfl, h1, hE, hr⟩
end

end Go.Proofs.YtoclhecldmahiaaDoor
