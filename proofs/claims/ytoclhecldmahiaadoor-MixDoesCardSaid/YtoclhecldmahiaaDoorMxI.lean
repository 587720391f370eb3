/-
  What is asked, and registers, over a pair of arenas: contracts.
-/
import Derived.Test.YtoclhecldmahiaaDoorMxG
import Derived.Test.YtoclhecldmahiaaDoorMxF
import Derived.Test.YtoclhecldmahiaaDoorM2Fns
set_option linter.unusedVariables false
set_option linter.unusedVariables false
set_option linter.unusedSimpArgs false
namespace Go.Proofs.YtoclhecldmahiaaDoor
open Go.Lf Go.RowKit

/-! how they come in -/

structure AskI where
  kind : Int
  a : Int
  b : Int
  raw : Bool
def AskC (_ : World) (cs : List Value) (x : AskI) : Prop := cs = [.int .i64 x.kind, .int .i64 x.a, .int .i64 x.b, .bool x.raw] ∧ x.kind ≤ 9223372036854775807
abbrev Asks (w : World) (s : Sl) (l : List AskI) : Prop := Els 4 AskC w s l
theorem AskC.stab : Stab AskC := fun _ _ _ _ _ h => h
theorem AskC.len {w : World} {cs : List Value} {a : AskI} (h : AskC w cs a) : cs.length = 4 := by rw [h.1]; rfl
theorem Asks.get {w : World} {s : Sl} {l : List AskI} (h : Asks w s l) {i : Nat} (hi : i < l.length) : ∃ p, s.a = some p ∧ w.cell? (p.add (i * 4)) = some (.int .i64 l[i].kind) ∧ w.cell? ((p.add (i * 4)).add 1) = some (.int .i64 l[i].a) ∧ w.cell? ((p.add (i * 4)).add 2) = some (.int .i64 l[i].b) ∧ w.cell? ((p.add (i * 4)).add 3) = some (.bool l[i].raw) ∧ l[i].kind ≤ 9223372036854775807 := by
  obtain ⟨p, cs, hp, _, hc, he, hk⟩ := h.el i _ (List.getElem?_eq_getElem hi)
  subst he
  refine ⟨p, hp, ?_, ?_, ?_, ?_, hk⟩
  · have := hc 0 _ rfl; rwa [Nat.add_zero] at this
  · rw [add_add]; exact hc 1 _ rfl
  · rw [add_add]; exact hc 2 _ rfl
  · rw [add_add]; exact hc 3 _ rfl

set_option maxRecDepth 100000 in
theorem reads_ask : Reads Tryd.prog 68 AskC := by
  constructor
  intro H enc w base sp held fuel cs x h
  obtain ⟨hl, n, hf⟩ := struct_fields Tryd.underlying68 h
  have hl : cs.length = 4 := hl
  match cs, hl with
  | [c0, c1, c2, c3], _ =>
    simp only [List.mem_cons, List.not_mem_nil, or_false, forall_eq_or_imp, forall_eq] at hf
    obtain ⟨⟨y0, h0⟩, ⟨y1, h1⟩, ⟨y2, h2⟩, ⟨y3, h3⟩⟩ := hf
    obtain ⟨m0, e0, w0⟩ := (reads_int Tryd.underlying3).go (cs := [c0]) h0
    obtain ⟨m1, e1, w1⟩ := (reads_int Tryd.underlying3).go (cs := [c1]) h1
    obtain ⟨m2, e2, w2⟩ := (reads_int Tryd.underlying3).go (cs := [c2]) h2
    obtain ⟨m3, e3⟩ := (reads_bool Tryd.underlying4).go (cs := [c3]) h3
    have e3 : [c3] = [Value.bool m3] := e3
    simp only [List.cons.injEq, and_true] at e0 e1 e2 e3
    subst e0 e1 e2 e3
    exact ⟨⟨m0, m1, m2, m3⟩, rfl, (wf_two w0).2⟩

set_option maxRecDepth 100000 in
theorem asks_in {H : Type} {enc : TypeId × Value → H} {w : World} {base b0 : Nat} {r : Reach} {sp : Nat → Bool} {held : Bool} {v : Value} {d : DataW H} {ps : List MemPlace} (hv : Value.okWide Tryd.prog w r b0 65 v)
    (h : DataW.Trod enc Tryd.prog w base sp held 65 v d ps) : ∃ (s : Sl) (l : List AskI), v = .slice s.a s.len s.cap ∧ Asks w s l := by
  obtain ⟨a, len, cap, rfl⟩ := WideShapes.okWide_slice Tryd.underlying65 hv
  obtain ⟨l, s, e, hg⟩ := (reads_slice Tryd.underlying65 (n := 4) (by kernel_rfl) (by omega) reads_ask fun _ _ _ h => h.len).open h
  have e : [Value.slice a len cap] = [.slice s.a s.len s.cap] := e
  exact ⟨s, l, by simpa using e, hg⟩

set_option maxRecDepth 100000 in
theorem reads_reg : Reads Tryd.prog 72 PairC := by
  constructor
  intro H enc w base sp held fuel cs x h
  obtain ⟨hl, n, hf⟩ := struct_fields Tryd.underlying72 h
  have hl : cs.length = 2 := hl
  match cs, hl with
  | [c0, c1], _ =>
    simp only [List.mem_cons, List.not_mem_nil, or_false, forall_eq_or_imp, forall_eq] at hf
    obtain ⟨⟨y0, h0⟩, ⟨y1, h1⟩⟩ := hf
    obtain ⟨m0, e0, _⟩ := (reads_int Tryd.underlying3).go (cs := [c0]) h0
    obtain ⟨m1, e1, _⟩ := (reads_int Tryd.underlying3).go (cs := [c1]) h1
    simp only [List.cons.injEq, and_true] at e0 e1
    subst e0 e1
    exact ⟨(m0, m1), rfl⟩

set_option maxRecDepth 100000 in
theorem regs_in {H : Type} {enc : TypeId × Value → H} {w : World} {base b0 : Nat} {r : Reach} {sp : Nat → Bool} {held : Bool} {v : Value} {d : DataW H} {ps : List MemPlace} (hv : Value.okWide Tryd.prog w r b0 57 v)
    (h : DataW.Trod enc Tryd.prog w base sp held 57 v d ps) : ∃ (s : Sl) (xs : List Rg), v = .slice s.a s.len s.cap ∧ Regs w s xs := by
  obtain ⟨a, len, cap, rfl⟩ := WideShapes.okWide_slice Tryd.underlying57 hv
  obtain ⟨l, s, e, hg⟩ := (reads_slice Tryd.underlying57 (n := 2) (by kernel_rfl) (by omega) reads_reg fun _ _ _ h => by rw [show _ = _ from h]; rfl).open h
  have e : [Value.slice a len cap] = [.slice s.a s.len s.cap] := e
  exact ⟨s, l, by simpa using e, Regs.ofEls hg⟩

/-! what is asked, on the page's arena -/

theorem Grown.up {T T' : List Tm} {i j : Nat} (h : Grown T T' i) (hij : i ≤ j) : Grown T T' j := ⟨h.ext, Nat.le_trans h.len (by omega), h.nb⟩

section
variable {W w w' : World} {L R : List Asn} {p pp a b : Addr} {A B T : List Tm} {n : Nat}

theorem At.less (k : Nat) {X : Asn} (hk : L[k]? = some X) (h : At W w L) : At W w (L.eraseIdx k) := ⟨h.s.less k hk, h.b, h.t⟩

theorem pgCell (h : At W w (pgT p T :: R)) : ∃ a c, w.cell? p = some (.slice a T.length c) := by
  obtain ⟨N, hN, hs⟩ := Sep.pgOut h.s
  obtain ⟨ba, bc, hc, _⟩ := pg_at hs
  have : N.length = T.length := by rw [← terms_len, hN]
  rw [this] at hc
  exact ⟨ba, bc, hc⟩

theorem someI_len (xs : List Int) (n : Int) : (someI xs n).length = xs.length := by simp [someI]

theorem ask_b (h : At W w (pgT p T :: R)) (x : AskI) (hk : x.kind ≤ 9223372036854775807) :
    CallsV Tryd.prog n_trystlaw24_ask #[.pointer (some p), .agg #[.int .i64 x.kind, .int .i64 x.a, .int .i64 x.b, .bool x.raw]] w fun v w' => ∃ (y : Int) (T' : List Tm), v = .int .i64 y ∧ At W w' (pgT p T' :: R) ∧ Grown T T' 2 := by
  refine trystlaw24_ask.lift ?_
  unfold trystlaw24_ask.main
  generalize hRR : (fun (v : Value) (w' : World) => ∃ (y : Int) (T' : List Tm), v = .int .i64 y ∧ At W w' (pgT p T' :: R) ∧ Grown T T' 2) = RR
  intro w1
  have h1 : At W w1 (boxA (newA w) [.int .i64 x.kind, .int .i64 x.a, .int .i64 x.b, .bool x.raw] :: pgT p T :: R) := h.box 68 [.int .i64 x.kind, .int .i64 x.a, .int .i64 x.b, .bool x.raw]
  clear_value w1
  generalize newA w = xb at h1 ⊢
  have h1 : At W w1 (pgT p T :: boxA xb [.int .i64 x.kind, .int .i64 x.a, .int .i64 x.b, .bool x.raw] :: R) := h1.swap
  obtain ⟨ba, bc, hc⟩ := pgCell h1
  refine ⟨p, rfl, _, _, _, hc, _, h1.s.cell 1 rfl 1 rfl, _, h1.s.cell 1 rfl 2 rfl, ?_⟩
  intro w2
  have h2 : At W w2 (ownA ⟨some (newA w1), 2, 2⟩ [x.a, x.b] :: pgT p T :: boxA xb [.int .i64 x.kind, .int .i64 x.a, .int .i64 x.b, .bool x.raw] :: R) := h1.row [x.a, x.b] (by simp)
  clear_value w2
  refine (some_spec (s := ⟨some (newA w1), 2, 2⟩) (xs := [x.a, x.b]) (rowNow 0 rfl h2.s (by simp)) (by simp) (T.length : Int)).mono ?_
  rintro _ w3 ⟨s3, rfl, ho, hb⟩
  have h3 := (h2.own ho hb)
  obtain ⟨ya, yb, hy⟩ : ∃ ya yb, someI [x.a, x.b] (T.length : Int) = [ya, yb] := ⟨_, _, rfl⟩
  rw [hy] at h3
  have h3 : At W w3 (ownA s3 [ya, yb] :: pgT p T :: boxA xb [.int .i64 x.kind, .int .i64 x.a, .int .i64 x.b, .bool x.raw] :: R) := h3.less 1 rfl
  have hs3 : s3.len = 2 := h3.numLen 0 rfl
  have hl0 : (0 : Int) < ((s3.len : Nat) : Int) := by omega
  have hl1 : (1 : Int) < ((s3.len : Nat) : Int) := by omega
  have c2 : ∀ {w' : World}, At W w' (ownA s3 [ya, yb] :: pgT p T :: boxA xb [.int .i64 x.kind, .int .i64 x.a, .int .i64 x.b, .bool x.raw] :: R) → trystlaw24_ask.c2 RR s3 w' := by
    intro w' h'
    unfold trystlaw24_ask.c2
    obtain ⟨q, hq, hc⟩ := h'.num 0 rfl (i := 0) (by simp)
    refine ⟨by omega, by omega, q, hq, _, hc, ?_⟩
    rw [← hRR]
    have h4 := h'.drop.less 1 rfl
    exact ⟨_, T, rfl, h4, (Grown.refl T).up (by omega)⟩
  refine ⟨_, _, _, rfl, _, h3.s.cell 2 rfl 3 rfl, cond_c (fun _ => c2 h3) fun _ => ⟨_, h3.s.cell0 2 rfl rfl, cond_d (fun _ => c2 h3) fun hpos => ?_⟩⟩
  refine (rhas_at (h3.front 1 rfl) (s := s3) (xs := [ya, yb]) (rowNow 0 rfl h3.s (by simp))).mono ?_
  rintro _ w4 ⟨rfl, hsame⟩
  have h4 := h3.same hsame
  refine ⟨_, rfl, cond_not (fun _ => c2 h4) fun hin => ?_⟩
  unfold trystlaw24_ask.c1
  have num0 : ∀ {y : World} {L : List Asn}, At W y (L ++ ownA s3 [ya, yb] :: R) → ∃ q, s3.a = some q ∧ y.cell? (q.add (0 : Int).toNat) = some (.int .i64 ya) ∧ y.cell? (q.add (1 : Int).toNat) = some (.int .i64 yb) := by
    intro y L hy
    have hy := hy.dropL
    obtain ⟨q, hq, hc⟩ := hy.num 0 rfl (i := 0) (by simp)
    obtain ⟨q', hq', hc'⟩ := hy.num 0 rfl (i := 1) (by simp)
    rw [hq] at hq'
    obtain rfl := Option.some.inj hq'
    exact ⟨q, hq, hc, hc'⟩
  have h5 : At W w4 (pgT p T :: boxA xb [.int .i64 x.kind, .int .i64 x.a, .int .i64 x.b, .bool x.raw] :: ownA s3 [ya, yb] :: R) := (h4.perm (by
    refine (List.perm_append_comm (l₁ := [ownA s3 [ya, yb]]) (l₂ := [pgT p T, boxA xb [.int .i64 x.kind, .int .i64 x.a, .int .i64 x.b, .bool x.raw]])).append_right R))
  have h6 := h5.drew
  obtain ⟨q, hq, n0, n1⟩ := num0 (L := [_, _]) h6
  have cells : ∀ {y : World} {T' : List Tm}, At W y (pgT p T' :: boxA xb [.int .i64 x.kind, .int .i64 x.a, .int .i64 x.b, .bool x.raw] :: ownA s3 [ya, yb] :: R) → y.cell? xb = some (.int .i64 x.kind) ∧ y.cell? (q.add (0 : Int).toNat) = some (.int .i64 ya) ∧ y.cell? (q.add (1 : Int).toNat) = some (.int .i64 yb) := by
    intro y T' hy
    obtain ⟨q', hq', d0, d1⟩ := num0 (L := [_, _]) hy
    rw [hq] at hq'
    obtain rfl := Option.some.inj hq'
    exact ⟨hy.s.cell0 1 rfl rfl, d0, d1⟩
  have done : ∀ {w' : World} {T' : List Tm} {y : Int}, At W w' (pgT p T' :: boxA xb [.int .i64 x.kind, .int .i64 x.a, .int .i64 x.b, .bool x.raw] :: ownA s3 [ya, yb] :: R) → Grown T T' 2 → RR (.int .i64 y) w' := by
    intro w' T' y h' hg
    rw [← hRR]
    have h4 := (h'.less 2 rfl).less 1 rfl
    exact ⟨y, T', rfl, h4, hg⟩
  refine ⟨_, h5.s.cell0 1 rfl rfl, cond_e (fun h72 => ?_) fun h72 => ?_⟩
  · refine ⟨fun y => y.cell? xb = some (.int .i64 x.kind) ∧ y.cell? (q.add (0 : Int).toNat) = some (.int .i64 ya) ∧ y.cell? (q.add (1 : Int).toNat) = some (.int .i64 yb), cells h6, by decide, hl0, q, hq, _, fun y hy => hy.2.1, (rword 72 h6).mono ?_⟩
    rintro _ w7 ⟨rfl, h7⟩
    refine ⟨_, rfl, cells h7, ?_⟩
    intro w8
    refine (rmk 9 0 [(put T ⟨2, 72, []⟩).2.1, ya] h7 (by simp)).mono ?_
    rintro _ w9 ⟨rfl, h9⟩
    exact ⟨_, rfl, done h9 ((Grown.put T (by simp)).trans (Grown.put _ (by simp)))⟩
  · refine ⟨fun y => y.cell? xb = some (.int .i64 x.kind) ∧ y.cell? (q.add (0 : Int).toNat) = some (.int .i64 ya) ∧ y.cell? (q.add (1 : Int).toNat) = some (.int .i64 yb), cells h6, _, fun y hy => hy.1, by decide, hl0, q, hq, _, fun y hy => hy.2.1, by decide, hl1, q, hq, _, fun y hy => hy.2.2, (rword _ h6).mono ?_⟩
    rintro _ w7 ⟨rfl, h7⟩
    refine ⟨_, rfl, cells h7, ?_⟩
    intro w8
    refine (rmk 9 0 [(put T ⟨2, x.kind, []⟩).2.1, ya, yb] h7 (by simp)).mono ?_
    rintro _ w9 ⟨rfl, h9⟩
    exact ⟨_, rfl, done h9 ((Grown.put T hk).trans (Grown.put _ (by simp)))⟩

theorem ask_at (h : PairAt W w pp a b A B n R) (x : AskI) (hk : x.kind ≤ 9223372036854775807) :
    CallsV Tryd.prog n_trystlaw24_ask #[.pointer (some b), .agg #[.int .i64 x.kind, .int .i64 x.a, .int .i64 x.b, .bool x.raw]] w fun v w' => ∃ (y : Int) (B' : List Tm), v = .int .i64 y ∧ PairAt W w' pp a b A B' (n + 2) R ∧ Grown B B' 2 := by
  obtain ⟨M, h1, hp, hnb, l1, l2⟩ := h.toB
  refine (ask_b h1 x hk).mono ?_
  rintro _ w' ⟨y, B', rfl, h', hg⟩
  exact ⟨y, B', rfl, PairAt.ofB h' hp hg.ext hg.len (hg.nb hnb) l1 l2, hg⟩

/-! registers in the other arena -/

def RegRel (A B : List Tm) (ra rb : List Rg) : Prop := ra.length = rb.length ∧ ∀ (i : Nat) (x y : Rg), ra[i]? = some x → rb[i]? = some y → Rel A B x.1 y.1 ∧ Rel A B x.2 y.2
theorem RegRel.mono {A' : List Tm} (hA : Ext A A') {ra rb : List Rg} (h : RegRel A B ra rb) : RegRel A' B ra rb := ⟨h.1, fun i x y hx hy => ⟨(h.2 i x y hx hy).1.mono hA, (h.2 i x y hx hy).2.mono hA⟩⟩
theorem RegRel.ev {ra rb : List Rg} (h : RegRel A B ra rb) (hi : ∀ r ∈ rb, inT B r.1 ∧ inT B r.2) : RegEv A B ra rb :=
  ⟨h.1, fun i x y hx hy => ⟨(h.2 i x y hx hy).1.ev (hi y (List.mem_of_getElem? hy)).1, (h.2 i x y hx hy).2.ev (hi y (List.mem_of_getElem? hy)).2⟩⟩
theorem RegRel.inA {ra rb : List Rg} (h : RegRel A B ra rb) : (∀ r ∈ ra, inT A r.1 ∧ inT A r.2) ↔ ∀ r ∈ rb, inT B r.1 ∧ inT B r.2 := by
  have hl := h.1
  constructor
  · intro hh r hr
    obtain ⟨q, hq⟩ := List.getElem?_of_mem hr
    have := (List.getElem?_eq_some_iff.1 hq).1
    obtain ⟨e1, e2⟩ := h.2 q _ r (List.getElem?_eq_getElem (by omega)) hq
    have := hh _ (List.getElem_mem (by omega : q < ra.length))
    exact ⟨e1.inT.1 this.1, e2.inT.1 this.2⟩
  · intro hh r hr
    obtain ⟨q, hq⟩ := List.getElem?_of_mem hr
    have := (List.getElem?_eq_some_iff.1 hq).1
    obtain ⟨e1, e2⟩ := h.2 q r _ hq (List.getElem?_eq_getElem (by omega))
    have := hh _ (List.getElem_mem (by omega : q < rb.length))
    exact ⟨e1.inT.2 this.1, e2.inT.2 this.2⟩
theorem RelL.inA {la lb : List Int} (h : RelL A B la lb) : (∀ x ∈ la, inT A x) ↔ ∀ x ∈ lb, inT B x := by
  have hl := h.1
  constructor
  · intro hh r hr
    obtain ⟨q, hq⟩ := List.getElem?_of_mem hr
    have := (List.getElem?_eq_some_iff.1 hq).1
    exact (h.2 q _ r (List.getElem?_eq_getElem (by omega)) hq).inT.1 (hh _ (List.getElem_mem (by omega : q < la.length)))
  · intro hh r hr
    obtain ⟨q, hq⟩ := List.getElem?_of_mem hr
    have := (List.getElem?_eq_some_iff.1 hq).1
    exact (h.2 q r _ hq (List.getElem?_eq_getElem (by omega))).inT.2 (hh _ (List.getElem_mem (by omega : q < lb.length)))

theorem regsP_at (h : PairAt W w pp a b A B n R) (hn : n ≤ 900000) {s : Sl} {rs : List Rg} (hl : rs.length ≤ 100000) (hR : ∀ L w', At W w' (L ++ R) → Regs w' s rs) :
    CallsV Tryd.prog n_trystlaw24_regs #[.pointer (some pp), .slice s.a s.len s.cap] w fun v w' => ∃ (s' : Sl) (rs' : List Rg) (A' : List Tm), v = .slice s'.a s'.len s'.cap ∧ PairAt W w' pp a b A' B n (regA s' rs' :: R) ∧ Ext A A' ∧ RegRel A' B rs' rs := by
  refine trystlaw24_regs.lift ?_
  unfold trystlaw24_regs.main trystlaw24_regs.l1
  have h0 : PairAt W w pp a b A B n (regA ⟨none, 0, 0⟩ [] :: R) := h.onR fun M h1 => ((h1.regNil.front 3 rfl).front 3 rfl).front 3 rfl
  have hlen : s.len = rs.length := by obtain ⟨M, h1, _⟩ := h; exact (hR [_, _, _] w h1).len
  refine ⟨fun t w' => ∃ (k : Nat) (rs' : List Rg) (A' : List Tm), t.2 = k ∧ k ≤ rs.length ∧ PairAt W w' pp a b A' B n (regA t.1 rs' :: R) ∧ Ext A A' ∧ RegRel A' B rs' (rs.take k), fun t _ => rs.length - t.2.toNat, ⟨0, [], A, rfl, Nat.zero_le _, h0, Ext.refl _, rfl, by simp⟩, ?_⟩
  clear h0 h
  rintro ⟨so, _⟩ w1 ⟨k, rs', A1, rfl, hk, h1, hE, hr⟩
  show trystlaw24_regs.b1 _ _ (some pp) s so (k : Int) w1
  unfold trystlaw24_regs.b1
  refine cond_d (p := ((k : Nat) : Int) < ((s.len : Nat) : Int)) (fun hlt => ?_) fun hge => ?_
  · have hkl : k < rs.length := by omega
    have hrl := hr.1
    rw [List.length_take, Nat.min_eq_left hk] at hrl
    have cells : ∀ {y : World} {A' : List Tm}, PairAt W y pp a b A' B n (regA so rs' :: R) → ∃ q, s.a = some q ∧ y.cell? (q.add ((k : Int).toNat * 2)) = some (.int .i64 rs[k].1) ∧ y.cell? ((q.add ((k : Int).toNat * 2)).add 1) = some (.int .i64 rs[k].2) := by
      intro y A' hy
      obtain ⟨M, hy, _⟩ := hy
      rw [Int.toNat_natCast]
      exact (hR [_, _, _, _] y hy).cell k rs[k] (List.getElem?_eq_getElem hkl)
    have h2 := h1.drew
    obtain ⟨q, hq, c1, c2⟩ := cells h2
    have cells' : ∀ {y : World} {A' : List Tm}, PairAt W y pp a b A' B n (regA so rs' :: R) → y.cell? (q.add ((k : Int).toNat * 2)) = some (.int .i64 rs[k].1) ∧ y.cell? ((q.add ((k : Int).toNat * 2)).add 1) = some (.int .i64 rs[k].2) := by
      intro y A' hy
      obtain ⟨q', hq', d1, d2⟩ := cells hy
      rw [hq] at hq'
      obtain rfl := Option.some.inj hq'
      exact ⟨d1, d2⟩
    refine ⟨fun y => y.cell? (q.add ((k : Int).toNat * 2)) = some (.int .i64 rs[k].1) ∧ y.cell? ((q.add ((k : Int).toNat * 2)).add 1) = some (.int .i64 rs[k].2), ⟨c1, c2⟩, by omega, by omega, q, hq, _, fun y hy => hy.1, by omega, by omega, q, hq, _, fun y hy => hy.2, (pT_at h2 hn _).mono ?_⟩
    rintro _ w3 ⟨i1, A2, rfl, h3, hE2, hr1⟩
    refine ⟨_, rfl, cells' h3, (pT_at h3 hn _).mono ?_⟩
    rintro _ w4 ⟨i2, A3, rfl, h4, hE3, hr2⟩
    refine ⟨_, rfl, ?_⟩
    intro w5
    obtain ⟨M, h4', hp, hnb, l1, l2⟩ := h4
    obtain ⟨s6, w6, r6, h6⟩ := reg_more 3 rfl h4' (i1, i2) (by omega)
    refine ⟨_, _, _, w6, r6, ?_⟩
    dsimp only
    rw [inc (by omega)]
    refine ⟨⟨rfl, rfl, k + 1, rs' ++ [(i1, i2)], A3, rfl, by omega, ⟨M, h6, hp, hnb, l1, l2⟩, (hE.trans hE2).trans hE3, ?_⟩, by omega⟩
    rw [List.take_succ_eq_append_getElem hkl]
    refine ⟨by rw [List.length_append, List.length_append, List.length_take, Nat.min_eq_left hk, hrl]; rfl, fun i x y hx hy => ?_⟩
    rw [List.getElem?_append] at hx hy
    have htl : (rs.take k).length = k := by rw [List.length_take]; omega
    by_cases hi : i < rs'.length
    · rw [if_pos hi] at hx
      rw [if_pos (by omega)] at hy
      obtain ⟨e1, e2⟩ := hr.2 i x y hx hy
      exact ⟨e1.mono (hE2.trans hE3), e2.mono (hE2.trans hE3)⟩
    · rw [if_neg hi] at hx
      rw [if_neg (by omega)] at hy
      have := (List.getElem?_eq_some_iff.1 hx).1
      simp at this
      have e : i = k := by omega
      subst e
      rw [hrl, Nat.sub_self] at hx
      rw [htl, Nat.sub_self] at hy
      simp at hx hy
      subst hx hy
      exact ⟨hr1.mono hE3, hr2⟩
  · rw [List.take_of_length_le (by omega)] at hr
    exact ⟨so, rs', A1, rfl, h1, hE, hr⟩
end

end Go.Proofs.YtoclhecldmahiaaDoor

/-
  MixDoes.
-/
set_option linter.unusedVariables false
set_option linter.unusedSimpArgs false
namespace Go.Proofs.YtoclhecldmahiaaDoor
open Go.Lf Go.RowKit

theorem flat_reg2 : ∀ (rs : List Rg) (i : Nat) (x y : Int), i < rs.length → ((flat regC rs).set (i * 2) (.int .i64 x)).set (i * 2 + 1) (.int .i64 y) = flat regC (rs.set i (x, y))
  | [], _, _, _, h => by simp at h
  | r :: rs, 0, x, y, _ => rfl
  | r :: rs, i + 1, x, y, h => by
    have e : flat regC (r :: rs) = .int .i64 r.1 :: .int .i64 r.2 :: flat regC rs := rfl
    rw [e, show (i + 1) * 2 + 1 = (i * 2 + 1) + 1 + 1 by omega, show (i + 1) * 2 = (i * 2) + 1 + 1 by omega, List.set_cons_succ, List.set_cons_succ, List.set_cons_succ, List.set_cons_succ, flat_reg2 rs i x y (by simpa using h), List.set_cons_succ]
    rfl

theorem ownR {W w : World} {R : List Asn} {s : Sl} {xs : List Int} {Z : List Asn} (hx : xs.length ≤ 9223372036854775807) : ∀ L w', At W w' (L ++ (Z ++ (ownA s xs :: R))) → Ints .i64 w' s xs := fun L w' hw => rowNow 0 rfl (hw.dropL.dropL).s hx
theorem regR {W w : World} {R : List Asn} {s : Sl} {rs : List Rg} {Z : List Asn} : ∀ L w', At W w' (L ++ (Z ++ (regA s rs :: R))) → Regs w' s rs := fun L w' hw => regNow 0 rfl (hw.dropL.dropL).s

section
variable {W w w' : World} {L R : List Asn} {p pp a b : Addr} {A B T : List Tm} {n : Nat}

theorem PairAt.at_ (h : PairAt W w pp a b A B n R) : ∃ L, At W w (L ++ R) := by
  obtain ⟨M, h1, _⟩ := h
  exact ⟨[_, _, _], h1⟩

/-- behind an append to numbers -/
theorem PairAt.more_at (k : Nat) {s : Sl} {xs : List Int} (hk : R[k]? = some (ownA s xs)) (h : PairAt W w pp a b A B n R) (x : Int) (hx : xs.length ≤ 100000000) :
    ∃ (s' : Sl) (w' : World), (builtin .append #[29, 29] 29 #[] #[.slice s.a s.len s.cap, .slice (some (newA w)) 1 1]).run Tryd.prog (w.alloc (.cells #[.int .i64 x] 3)) = .ok (.value (.slice s'.a s'.len s'.cap)) w' ∧ PairAt W w' pp a b A B n (R.set k (ownA s' (xs ++ [x]))) := by
  obtain ⟨M, h1, h2⟩ := h
  obtain ⟨s', w', r, h3⟩ := Proofs.YtoclhecldmahiaaDoor.more_at (k + 3) (by simpa using hk) h1 x hx
  exact ⟨s', w', r, M, h3, h2⟩

theorem does_c1 {RR : Value → World → Prop} (hRR : ∀ w, Below W.heap.size W w → RR (.bool true) w) {A0 : List Tm} {ins sts t1 t2 : Sl} {xs ys : List Int} {rs rsA : List Rg} {hs : Bool} {e : Int} {Z1 Z2 Z3 : List Asn}
    (hxl : xs.length ≤ 1000) (hrl : rs.length ≤ 1000)
    (h : PairAt W w pp a b A B 2000 R) (hI : ∀ L w', At W w' (L ++ R) → Ints .i64 w' ins xs) (hSt : ∀ L w', At W w' (L ++ R) → Regs w' sts rs)
    (hhs : hs = decide ((∀ x ∈ xs, inT B x) ∧ ∀ r ∈ rs, inT B r.1 ∧ inT B r.2)) (hr1 : RegRel A0 B rsA rs) (hr2 : RelL A0 B ys xs) (hA0 : TOk A0) (hl0 : A0.length ≤ 2000) (he : e = doErr A0 rsA ys)
    (hbad : doErr A0 rsA ys ≠ 0 → t1 = ⟨none, 0, 0⟩ ∧ t2 = ⟨none, 0, 0⟩) (hgood : doErr A0 rsA ys = 0 → Ext (wordT A0).1 A ∧ (∀ L w', At W w' (L ++ R) → Regs w' t1 (doT A0 rsA ys).1) ∧ ∀ L w', At W w' (L ++ R) → Ints .i64 w' t2 (doT A0 rsA ys).2) :
    trystlaw24_MixDoes.c1 RR (some pp) (some b) ins sts hs t1 t2 e w := by
  unfold trystlaw24_MixDoes.c1
  obtain ⟨L0, h0⟩ := h.at_
  have hinl := (hI L0 w h0).len
  have i1 := hr1.inA
  have i2 := RelL.inA hr2
  have hyl : ys.length = xs.length := hr2.1
  have wk : ∀ {w' : World} {R' : List Asn}, At W w' R' → CallsV Tryd.prog n_trystlaw24_wakes #[] w' (fun v_1 w1 => ∃ b_2 : Bool, v_1 = .bool b_2 ∧ RR (.bool b_2) w1) := by
    intro w' R' h'
    refine (wakes24 h').mono ?_
    rintro _ w1 ⟨rfl, h1⟩
    exact ⟨true, rfl, hRR _ h1.b⟩
  have nil0 : IntKind.i64.wrap (((0 : Nat) : Int) + ((0 : Nat) : Int)) = 0 := by decide
  by_cases hall : (∀ x ∈ xs, inT B x) ∧ ∀ r ∈ rs, inT B r.1 ∧ inT B r.2
  · rw [hhs, decide_eq_true hall]
    refine cond_f' rfl (cond_d (fun hbig => ?_) fun hsmall => ?_)
    · have hde : doErr A0 rsA ys = 2 := by unfold doErr; rw [if_neg (fun hn => hn ⟨i1.2 hall.2, i2.2 hall.1⟩), if_pos (by omega)]
      obtain ⟨rfl, rfl⟩ := hbad (by rw [hde]; decide)
      rw [he, hde]
      exact cond_t rfl (cond_t (by decide) (wk h0))
    · have hde : doErr A0 rsA ys = 0 := by unfold doErr; rw [if_neg (fun hn => hn ⟨i1.2 hall.2, i2.2 hall.1⟩), if_neg (by omega)]
      obtain ⟨hE, g1, g2⟩ := hgood hde
      obtain ⟨M, h1, hp, hnb, l1, l2⟩ := h.toB
      have hBok := h1.pok
      obtain ⟨_, _, _, _, gB⟩ := wordT_good (T := B) (by omega)
      obtain ⟨B', hB'⟩ : ∃ B', B' = (if xs = [] then B else (wordT B).1) := ⟨_, rfl⟩
      have gB' : Grown B B' 1 := by
        rw [hB']; split
        · exact (Grown.refl B).up (by omega)
        · exact gB
      refine (rdo_at (R := prA pp a b M :: arT a A :: R) h1 (s1 := sts) (s2 := ins) (rs := rs) (l := xs) (by omega) (by omega) (by omega) (fun L w' hw => hSt (L ++ [_, _]) w' (by rw [List.append_assoc]; exact hw)) (fun L w' hw => hI (L ++ [_, _]) w' (by rw [List.append_assoc]; exact hw)) hall.1).mono ?_
      rintro _ w3 ⟨s3, s4, rfl, h3⟩
      rw [← hB'] at h3
      have h4 : At W w3 (pgT b B' :: prA pp a b M :: arT a A :: (regA s3 (doT B rs xs).1 :: ownA s4 (doT B rs xs).2 :: R)) := h3.perm ((List.perm_append_comm (l₁ := [_, _]) (l₂ := [_, _, _])).append_right R)
      have P4 : PairAt W w3 pp a b A B' 2001 (regA s3 (doT B rs xs).1 :: ownA s4 (doT B rs xs).2 :: R) := PairAt.ofB h4 hp gB'.ext gB'.len (gB'.nb hnb) l1 l2
      -- both do the same
      have hsame : RegEv (wordT A0).1 B' (doT A0 rsA ys).1 (doT B rs xs).1 ∧ EvL (wordT A0).1 B' (doT A0 rsA ys).2 (doT B rs xs).2 := by
        have ht := doT_ev hA0 hBok (by omega) (by omega) (hr2.ev hall.1) (hr1.ev hall.2)
        rw [hB']
        split
        · rename_i hx
          subst hx
          have hy0 : ys = [] := by cases ys with
            | nil => rfl
            | cons x r => simp at hyl
          subst hy0
          obtain ⟨_, _, _, _, gA⟩ := wordT_good (T := A0) (by omega)
          exact ⟨(hr1.ev hall.2).mono gA.ext (Ext.refl _), EvL.nil _ _⟩
        · exact ht
      obtain ⟨sm1, sm2⟩ := hsame
      have d1 := (doS_len (wordT B).2.1 (xs.map (rqOf (wordT B).1)) rs xs.length)
      have d1a : (doT B rs xs).2.length = xs.length := d1.1
      have d1b : (doT B rs xs).1.length ≤ rs.length + xs.length := d1.2
      refine ⟨_, _, _, _, _, _, rfl, ?_⟩
      rw [he, hde]
      refine cond_t rfl ((regsP_at P4 (by omega) (s := s3) (rs := (doT B rs xs).1) (by omega) (fun L w' hw => regNow 0 rfl hw.dropL.s)).mono ?_)
      rintro _ w5 ⟨s5, rs5, A5, rfl, P5, hE5, hr5⟩
      refine ⟨_, _, _, rfl, ?_⟩
      obtain ⟨M5, h5, hp5, hnb5, k1, k2⟩ := P5
      have hok5 : TOk A5 := (h5.front 1 rfl).ok
      have e5 : (doT A0 rsA ys).1 = rs5 := RegEv.left hok5 (sm1.mono (hE.trans hE5) (Ext.refl _)) (hr5.ev sm1.inB)
      refine (regs_spec (s := t1) (t := s5) (g1 [_, _, _, _, _, _] w5 h5) (regNow 3 rfl h5.s) (by have := sm1.1; omega)).mono ?_
      rintro _ w6 ⟨rfl, hs6⟩
      have h6 := h5.same hs6
      refine ⟨_, rfl, ?_⟩
      rw [decide_eq_true e5]
      have P6 : PairAt W w6 pp a b A5 B' 2001 (regA s5 rs5 :: regA s3 (doT B rs xs).1 :: ownA s4 (doT B rs xs).2 :: R) := ⟨M5, h6, hp5, hnb5, k1, k2⟩
      refine cond_t rfl ((pTs_at P6 (by omega) (s := s4) (xs := (doT B rs xs).2) (by omega) (fun L w' hw => rowNow 2 rfl hw.dropL.s (by omega))).mono ?_)
      rintro _ w7 ⟨s7, ks7, A7, rfl, P7, hE7, hr7⟩
      refine ⟨_, _, _, rfl, ?_⟩
      obtain ⟨M7, h7, hp7, hnb7, k1, k2⟩ := P7
      have hok7 : TOk A7 := (h7.front 1 rfl).ok
      have e7 : (doT A0 rsA ys).2 = ks7 := EvL.left hok7 (sm2.mono ((hE.trans hE5).trans hE7) (Ext.refl _)) (hr7.ev sm2.inB)
      refine (ints_spec (s := t2) (t := s7) (g2 [_, _, _, _, _, _, _] w7 h7) (rowNow 3 rfl h7.s (by have := hr7.1; omega))).mono ?_
      rintro _ w8 ⟨rfl, hs8⟩
      refine ⟨_, rfl, ?_⟩
      rw [decide_eq_true e7]
      exact cond_t rfl (wk (h7.same hs8))
  · rw [hhs, decide_eq_false hall]
    have hde : doErr A0 rsA ys = 8 := by unfold doErr; rw [if_pos (fun hn => hall ⟨i2.1 hn.2, i1.1 hn.1⟩)]
    obtain ⟨rfl, rfl⟩ := hbad (by rw [hde]; decide)
    rw [he, hde]
    exact cond_t rfl (cond_t rfl (cond_t (by decide) (wk h0)))

theorem does_c2 {RR : Value → World → Prop} (hRR : ∀ w, Below W.heap.size W w → RR (.bool true) w) {ins sts : Sl} {xs : List Int} {rs : List Rg} {hs : Bool} (hxl : xs.length ≤ 1000) (hrl : rs.length ≤ 1000)
    (h : PairAt W w pp a b A B 1900 [regA sts rs, ownA ins xs]) (hhs : hs = decide ((∀ x ∈ xs, inT B x) ∧ ∀ r ∈ rs, inT B r.1 ∧ inT B r.2)) : trystlaw24_MixDoes.c2 RR (some pp) (some b) ins sts hs w := by
  unfold trystlaw24_MixDoes.c2
  refine (regsP_at h (by omega) (s := sts) (rs := rs) (by omega) (fun L w' hw => regNow 0 rfl hw.dropL.s)).mono ?_
  rintro _ w1 ⟨s1, rs1, A1, rfl, P1, hE1, hr1⟩
  have hrs1 := hr1.1
  refine ⟨_, _, _, rfl, (pTs_at P1 (by omega) (s := ins) (xs := xs) (by omega) (fun L w' hw => rowNow 2 rfl hw.dropL.s (by omega))).mono ?_⟩
  rintro _ w2 ⟨s2, ys, A2, rfl, P2, hE2, hr2⟩
  have hys := hr2.1
  refine ⟨_, _, _, rfl, ?_⟩
  obtain ⟨M, h2, hp, hnb, l1, l2⟩ := P2
  refine (twin_regs h2 (s := s1) (rs := rs1) (regNow 4 rfl h2.s) (by omega)).mono ?_
  rintro _ w3 ⟨s3, rfl, h3⟩
  refine ⟨_, _, _, rfl, ?_⟩
  refine (twin_spec (s := s2) (xs := ys) (rowNow 4 rfl h3.s (by omega)) (by omega)).mono ?_
  rintro _ w4 ⟨s4, rfl, ho4, hb4⟩
  have h4 : At W w4 (ownA s4 ys :: regA s3 rs1 :: prA pp a b M :: arT a A2 :: pgT b B :: ownA s2 ys :: regA s1 rs1 :: [regA sts rs, ownA ins xs]) := h3.own ho4 hb4
  have hA2 : TOk A2 := (h4.front 3 rfl).ok
  have cell : w4.cell? pp = some (.pointer (some a)) := (prCells (h4.front 2 rfl).s).1
  refine ⟨_, _, _, rfl, pp, rfl, _, cell, ?_⟩
  have h5 : At W w4 (arT a A2 :: (ownA s4 ys :: regA s3 rs1 :: prA pp a b M :: pgT b B :: ownA s2 ys :: regA s1 rs1 :: [regA sts rs, ownA ins xs])) := h4.front 3 rfl
  refine (do_at h5 (s1 := s3) (s2 := s4) (rs := rs1) (l := ys) (by omega) (by omega) (by omega) (fun L w' hw => regNow 1 rfl hw.dropL.s) (fun L w' hw => rowNow 0 rfl hw.dropL.s (by omega))).mono ?_
  rintro _ w6 ⟨t1, t2, rfl, good, bad⟩
  refine ⟨_, _, _, _, _, _, _, rfl, ?_⟩
  obtain ⟨_, _, _, _, gA⟩ := wordT_good (T := A2) (by omega)
  have hpA : PairOk (wordT A2).1 B M := hp.mono gA.ext (Ext.refl _)
  have hgl := gA.len
  -- what was handed in stays
  have last : ∀ {w' : World} {A3 : List Tm} {R' : List Asn}, PairAt W w' pp a b A3 B 2000 (ownA s4 ys :: regA s3 rs1 :: ownA s2 ys :: regA s1 rs1 :: regA sts rs :: ownA ins xs :: R') → (doErr A2 rs1 ys ≠ 0 → t1 = ⟨none, 0, 0⟩ ∧ t2 = ⟨none, 0, 0⟩) →
      (doErr A2 rs1 ys = 0 → Ext (wordT A2).1 A3 ∧ (∀ L w', At W w' (L ++ R') → Regs w' t1 (doT A2 rs1 ys).1) ∧ ∀ L w', At W w' (L ++ R') → Ints .i64 w' t2 (doT A2 rs1 ys).2) →
      CallsV Tryd.prog n_trystkeep_Regs #[.slice s3.a s3.len s3.cap, .slice s1.a s1.len s1.cap] w' (fun v_52 w14 =>
        ∃ b_53 : Bool, v_52 = .bool b_53 ∧ cond (!b_53) (RR (.bool false) w14)
        (CallsV Tryd.prog n_trystkeep_Ints #[.slice s4.a s4.len s4.cap, .slice s2.a s2.len s2.cap] w14 (fun v_54 w15 =>
        ∃ b_55 : Bool, v_54 = .bool b_55 ∧ cond (!b_55) (RR (.bool false) w15)
        (trystlaw24_MixDoes.c1 RR (some pp) (some b) ins sts hs ⟨t1.a, t1.len, t1.cap⟩ ⟨t2.a, t2.len, t2.cap⟩ (doErr A2 rs1 ys) w15)))) := by
    intro w' A3 R' P hb hg
    obtain ⟨M', h', q1, q2, q3, q4⟩ := P
    refine (regs_spec (s := s3) (t := s1) (regNow 4 rfl h'.s) (regNow 6 rfl h'.s) (by omega)).mono ?_
    rintro _ w7 ⟨rfl, hs7⟩
    have h7 := h'.same hs7
    refine ⟨_, rfl, cond_f' (by simp) ?_⟩
    refine (ints_spec (s := s4) (t := s2) (rowNow 3 rfl h7.s (by omega)) (rowNow 5 rfl h7.s (by omega))).mono ?_
    rintro _ w8 ⟨rfl, hs8⟩
    have P8 : PairAt W w8 pp a b A3 B 2000 (ownA s4 ys :: regA s3 rs1 :: ownA s2 ys :: regA s1 rs1 :: regA sts rs :: ownA ins xs :: R') := ⟨M', h7.same hs8, q1, q2, q3, q4⟩
    refine ⟨_, rfl, cond_f' (by simp) ?_⟩
    refine does_c1 (Z1 := []) (Z2 := []) (Z3 := []) hRR hxl hrl P8 (fun L w' hw => rowNow 5 rfl hw.dropL.s (by omega)) (fun L w' hw => regNow 4 rfl hw.dropL.s) hhs (hr1.mono hE2) hr2 hA2 (by omega) rfl hb fun h0 => ?_
    obtain ⟨g0, g1, g2⟩ := hg h0
    exact ⟨g0, fun L w' hw => g1 (L ++ [_, _, _, _, _, _]) w' (by rw [List.append_assoc]; exact hw), fun L w' hw => g2 (L ++ [_, _, _, _, _, _]) w' (by rw [List.append_assoc]; exact hw)⟩
  by_cases h0 : doErr A2 rs1 ys = 0
  · have h6 := good h0
    have d1 := doS_len (wordT A2).2.1 (ys.map (rqOf (wordT A2).1)) rs1 ys.length
    have d1a : (doT A2 rs1 ys).2.length = ys.length := d1.1
    have P6 : PairAt W w6 pp a b (wordT A2).1 B 2000 (ownA s4 ys :: regA s3 rs1 :: ownA s2 ys :: regA s1 rs1 :: regA sts rs :: ownA ins xs :: [regA t1 (doT A2 rs1 ys).1, ownA t2 (doT A2 rs1 ys).2]) := by
      refine ⟨M, ?_, hpA, hnb, by omega, by omega⟩
      have h7 : At W w6 (regA t1 (doT A2 rs1 ys).1 :: ownA t2 (doT A2 rs1 ys).2 :: arT a (wordT A2).1 :: ownA s4 ys :: regA s3 rs1 :: prA pp a b M :: pgT b B :: ownA s2 ys :: regA s1 rs1 :: [regA sts rs, ownA ins xs]) := h6
      have h8 : At W w6 ([arT a (wordT A2).1, ownA s4 ys, regA s3 rs1, prA pp a b M, pgT b B, ownA s2 ys, regA s1 rs1, regA sts rs, ownA ins xs] ++ [regA t1 (doT A2 rs1 ys).1, ownA t2 (doT A2 rs1 ys).2]) := h7.perm (List.perm_append_comm (l₁ := [_, _]) (l₂ := [_, _, _, _, _, _, _, _, _]))
      have h9 := h8.front 4 rfl
      have h9 : At W w6 (pgT b B :: [arT a (wordT A2).1, ownA s4 ys, regA s3 rs1, prA pp a b M, ownA s2 ys, regA s1 rs1, regA sts rs, ownA ins xs, regA t1 (doT A2 rs1 ys).1, ownA t2 (doT A2 rs1 ys).2]) := h9
      have h10 := (h9.front 1 rfl)
      have h10 : At W w6 (arT a (wordT A2).1 :: [pgT b B, ownA s4 ys, regA s3 rs1, prA pp a b M, ownA s2 ys, regA s1 rs1, regA sts rs, ownA ins xs, regA t1 (doT A2 rs1 ys).1, ownA t2 (doT A2 rs1 ys).2]) := h10
      exact h10.front 4 rfl
    exact last P6 (fun hne => absurd h0 hne) fun _ => ⟨Ext.refl _, fun L w' hw => regNow 0 rfl hw.dropL.s, fun L w' hw => rowNow 1 rfl hw.dropL.s (by omega)⟩
  · obtain ⟨e1, e2, h6⟩ := bad h0
    have P6 : PairAt W w6 pp a b A2 B 2000 (ownA s4 ys :: regA s3 rs1 :: ownA s2 ys :: regA s1 rs1 :: regA sts rs :: ownA ins xs :: []) := by
      refine ⟨M, ?_, hp, hnb, by omega, by omega⟩
      have h9 : At W w6 (pgT b B :: [arT a A2, ownA s4 ys, regA s3 rs1, prA pp a b M, ownA s2 ys, regA s1 rs1, regA sts rs, ownA ins xs]) := h6.front 4 rfl
      have h10 : At W w6 (arT a A2 :: [pgT b B, ownA s4 ys, regA s3 rs1, prA pp a b M, ownA s2 ys, regA s1 rs1, regA sts rs, ownA ins xs]) := h9.front 1 rfl
      exact h10.front 4 rfl
    exact last P6 (fun _ => ⟨e1, e2⟩) fun hh => absurd hh h0

set_option maxRecDepth 100000 in
theorem does_spec {W : World} (hT : PT W.heap.size W) {sl : Sl} {l : List Stp} (hS : Stps W sl l) {as_ : Sl} {asks : List AskI} (hA : Asks W as_ asks) {os : Sl} {old : List Rg} (hO : Regs W os old) (raw : Bool) :
    CallsV Tryd.prog n_trystlaw24_MixDoes #[.slice sl.a sl.len sl.cap, .slice as_.a as_.len as_.cap, .slice os.a os.len os.cap, .bool raw] W fun v w' => v = .bool true ∧ Below W.heap.size W w' := by
  refine trystlaw24_MixDoes.lift ?_
  unfold trystlaw24_MixDoes.main
  have hal := hA.len
  have hol := hO.len
  refine (heavy_spec hS).mono ?_
  rintro _ _ ⟨rfl, rfl⟩
  refine ⟨_, rfl, cond_c (fun _ => ⟨rfl, Below.refl _ _⟩) fun hh => cond_d (fun _ => ⟨rfl, Below.refl _ _⟩) fun ha => cond_d (fun _ => ⟨rfl, Below.refl _ _⟩) fun ho => ?_⟩
  generalize hRR : (fun (v : Value) (w' : World) => v = .bool true ∧ Below W.heap.size W w') = RR
  have hRR' : ∀ w, Below W.heap.size W w → RR (.bool true) w := fun w hb => by rw [← hRR]; exact ⟨rfl, hb⟩
  unfold trystlaw24_MixDoes.c9
  refine (pairs_at hT hS hh).mono ?_
  rintro _ w1 ⟨pp, a, b, rfl, h1, c0, c1⟩
  have hTl := buildT_len l
  have hTn : Nb (buildT l) := build_n hS
  generalize buildT l = T at h1 hTl hTn
  have P1 : PairAt W w1 pp a b T T 300 [] := ⟨[], h1, ⟨Nat.zero_le _, fun n x h => by simp at h⟩, hTn, by simp; omega, by omega⟩
  refine ⟨_, _, rfl, cond_f' rfl ⟨pp, rfl, _, c1, ?_⟩⟩
  have P2 : PairAt W w1 pp a b T T 300 [ownA ⟨none, 0, 0⟩ []] := P1.onR fun M h => ((h.nil.front 3 rfl).front 3 rfl).front 3 rfl
  unfold trystlaw24_MixDoes.l8
  refine ⟨fun x w' => ∃ (i : Nat) (xs : List Int) (B : List Tm), x.2 = i ∧ i ≤ asks.length ∧ xs.length = i ∧ PairAt W w' pp a b T B (300 + 2 * i) [ownA x.1 xs], fun x _ => asks.length - x.2.toNat, ⟨0, [], T, rfl, Nat.zero_le _, rfl, P2⟩, ?_⟩
  clear P2 P1 h1 c0 c1
  rintro ⟨ins, _⟩ w2 ⟨i, xs, B, rfl, hi, hxl, P2⟩
  show trystlaw24_MixDoes.b8 RR _ as_ os raw (some pp) (some b) ins (i : Int) w2
  have P2 : PairAt W w2 pp a b T B (300 + 2 * i) [ownA ins xs] := P2
  unfold trystlaw24_MixDoes.b8
  refine cond_d (p := ((i : Nat) : Int) < ((as_.len : Nat) : Int)) (fun hlt => ?_) fun hge => ?_
  · have hil : i < asks.length := by omega
    obtain ⟨q, hq, d0, d1, d2, d3, hk⟩ := Asks.get (hA.keep AskC.stab P2.base) hil
    refine ⟨by omega, hlt, q, hq, _, by rw [Int.toNat_natCast]; exact d0, _, by rw [Int.toNat_natCast]; exact d1, _, by rw [Int.toNat_natCast]; exact d2, _, by rw [Int.toNat_natCast]; exact d3, (ask_at P2 asks[i] hk).mono ?_⟩
    rintro _ w3 ⟨y, B', rfl, P3, hg⟩
    refine ⟨_, rfl, ?_⟩
    intro w4
    obtain ⟨s5, w5, r5, P5⟩ := P3.more_at 0 rfl y (by omega)
    refine ⟨_, _, _, w5, r5, ?_⟩
    dsimp only
    rw [inc (by omega)]
    refine ⟨⟨rfl, rfl, rfl, rfl, rfl, i + 1, xs ++ [y], B', rfl, by omega, by rw [List.length_append, hxl]; rfl, ?_⟩, by omega⟩
    rw [show 300 + 2 * (i + 1) = 300 + 2 * i + 2 by omega]
    exact P5
  · have hil : i = asks.length := by omega
    unfold trystlaw24_MixDoes.c7
    obtain ⟨M, h2, hp, hnb, l1, l2⟩ := P2
    refine (twin_regs h2 (hO.below h2.b) (by omega)).mono ?_
    rintro _ w3 ⟨s3, rfl, h3⟩
    have P3 : PairAt W w3 pp a b T B 1000 [regA s3 old, ownA ins xs] := ⟨M, ((h3.front 3 rfl).front 3 rfl).front 3 rfl, hp, hnb, by omega, by omega⟩
    refine ⟨_, _, _, rfl, ?_⟩
    -- are all there
    have c4 : ∀ {w' : World} {rs : List Rg}, rs.length = old.length → PairAt W w' pp a b T B 1000 [regA s3 rs, ownA ins xs] → trystlaw24_MixDoes.c4 RR (some pp) (some b) ins s3 w' := by
      intro w' rs hrs P
      unfold trystlaw24_MixDoes.c4
      obtain ⟨M, h4, hp, hnb, l1, l2⟩ := P.toB
      refine (rhas_at h4 (s := ins) (xs := xs) (rowNow 4 rfl h4.s (by omega))).mono ?_
      rintro _ w5 ⟨rfl, hs5⟩
      have P5 := P.same hs5
      refine ⟨_, rfl, ?_⟩
      have hsl : s3.len = rs.length := by obtain ⟨M, h5, _⟩ := P5; exact (h5.s.rowLen 3 rfl).1
      unfold trystlaw24_MixDoes.l3
      refine ⟨fun x w' => ∃ k : Nat, x.2 = k ∧ k ≤ rs.length ∧ x.1 = decide ((∀ x ∈ xs, inT B x) ∧ ∀ r ∈ rs.take k, inT B r.1 ∧ inT B r.2) ∧ PairAt W w' pp a b T B 1000 [regA s3 rs, ownA ins xs], fun x _ => rs.length - x.2.toNat, ⟨0, rfl, Nat.zero_le _, by simp, P5⟩, ?_⟩
      clear P5 h4 P
      rintro ⟨_, _⟩ w6 ⟨k, rfl, hk, rfl, P6⟩
      show trystlaw24_MixDoes.b3 RR _ (some pp) (some b) ins s3 (decide ((∀ x ∈ xs, inT B x) ∧ ∀ r ∈ rs.take k, inT B r.1 ∧ inT B r.2)) (k : Int) w6
      unfold trystlaw24_MixDoes.b3
      refine cond_d (p := ((k : Nat) : Int) < ((s3.len : Nat) : Int)) (fun hlt => ?_) fun hge => ?_
      · have hkl : k < rs.length := by omega
        have et : rs.take (k + 1) = rs.take k ++ [rs[k]] := List.take_succ_eq_append_getElem hkl
        have P7 := P6.drew
        obtain ⟨M, h7, hp, hnb, l1, l2⟩ := P7.toB
        have rg : ∀ {y : World}, At W y (pgT b B :: prA pp a b M :: arT a T :: [regA s3 rs, ownA ins xs]) → ∃ q, s3.a = some q ∧ y.cell? (q.add ((k : Int).toNat * 2)) = some (.int .i64 rs[k].1) ∧ y.cell? ((q.add ((k : Int).toNat * 2)).add 1) = some (.int .i64 rs[k].2) := by
          intro y hy
          rw [Int.toNat_natCast]
          exact (regNow 3 rfl hy.s).cell k rs[k] (List.getElem?_eq_getElem hkl)
        obtain ⟨q, hq, e1, e2⟩ := rg h7
        refine ⟨fun y => y.cell? (q.add ((k : Int).toNat * 2)) = some (.int .i64 rs[k].1) ∧ y.cell? ((q.add ((k : Int).toNat * 2)).add 1) = some (.int .i64 rs[k].2), ⟨e1, e2⟩, cond_c (fun ht => ?_) fun hf => ?_⟩
        · have ht := of_decide_eq_true ht
          refine ⟨by omega, by omega, q, hq, _, fun y hy => hy.1, by omega, by omega, q, hq, _, fun y hy => hy.2, ?_⟩
          intro w8
          refine (rhas_new [rs[k].1, rs[k].2] h7 (by simp)).mono ?_
          rintro _ w9 ⟨rfl, h9⟩
          refine ⟨_, rfl, ?_⟩
          dsimp only
          rw [inc (by omega)]
          refine ⟨⟨rfl, rfl, rfl, rfl, k + 1, rfl, by omega, ?_, M, (h9.front 2 rfl |>.front 2 rfl), hp, hnb, l1, l2⟩, by omega⟩
          rw [et, decide_eq_decide]
          simp only [List.mem_cons, List.not_mem_nil, or_false, forall_eq_or_imp, forall_eq, List.mem_append, List.mem_singleton]
          constructor
          · intro h
            refine ⟨ht.1, fun r hr => ?_⟩
            rcases hr with hr | rfl
            · exact ht.2 r hr
            · exact h
          · intro h; exact h.2 _ (.inr rfl)
        · have hf := of_decide_eq_false hf
          dsimp only
          rw [inc (by omega)]
          refine ⟨⟨rfl, rfl, rfl, rfl, k + 1, rfl, by omega, ?_, P7⟩, by omega⟩
          rw [decide_eq_false]
          intro h
          refine hf ⟨h.1, fun r hr => h.2 r ?_⟩
          rw [et]; exact List.mem_append_left _ hr
      · have hkl : k = rs.length := by omega
        subst hkl
        rw [List.take_length]
        exact does_c2 hRR' (by omega) (by omega) (P6.more (by omega)) rfl
    unfold trystlaw24_MixDoes.l5
    refine ⟨fun x w' => ∃ (k : Nat) (rs : List Rg), x = k ∧ k ≤ old.length ∧ rs.length = old.length ∧ PairAt W w' pp a b T B 1000 [regA s3 rs, ownA ins xs], fun x _ => old.length - x.toNat, ⟨0, old, rfl, Nat.zero_le _, rfl, P3⟩, ?_⟩
    clear P3 h3 h2
    rintro _ w4 ⟨k, rs, rfl, hk, hrs, P4⟩
    unfold trystlaw24_MixDoes.b5
    have hsl : s3.len = rs.length := by obtain ⟨M, h5, _⟩ := P4; exact (h5.s.rowLen 3 rfl).1
    refine cond_d (p := ((k : Nat) : Int) < ((s3.len : Nat) : Int)) (fun hlt => cond_not (fun _ => ?_) fun _ => c4 hrs P4) fun hge => c4 hrs P4
    have hkl : k < rs.length := by omega
    unfold trystlaw24_MixDoes.c6
    have P5 := P4.drew
    obtain ⟨M, h5, hp, hnb, l1, l2⟩ := P5.toB
    obtain ⟨ba, bc, hpg⟩ := pgCell h5
    have rg : ∀ {y : World} {L : List Asn}, At W y (L ++ (pgT b B :: prA pp a b M :: arT a T :: [regA s3 rs, ownA ins xs])) → ∃ q, s3.a = some q ∧ y.cell? (q.add ((k : Int).toNat * 2)) = some (.int .i64 rs[k].1) ∧ y.cell? ((q.add ((k : Int).toNat * 2)).add 1) = some (.int .i64 rs[k].2) := by
      intro y L hy
      rw [Int.toNat_natCast]
      exact (regNow 3 rfl hy.dropL.s).cell k rs[k] (List.getElem?_eq_getElem hkl)
    obtain ⟨q, hq, e1, e2⟩ := rg (L := []) h5
    refine ⟨fun y => y.cell? (q.add ((k : Int).toNat * 2)) = some (.int .i64 rs[k].1) ∧ y.cell? ((q.add ((k : Int).toNat * 2)).add 1) = some (.int .i64 rs[k].2) ∧ y.cell? b = some (.slice ba B.length bc), ⟨e1, e2, hpg⟩, by omega, by omega, q, hq, _, fun y hy => hy.1, by omega, by omega, q, hq, _, fun y hy => hy.2.1, b, rfl, _, _, _, fun y hy => hy.2.2, ?_⟩
    intro w6
    have h6 : At W w6 (ownA ⟨some (newA w4.drew), 2, 2⟩ [rs[k].1, rs[k].2] :: pgT b B :: prA pp a b M :: arT a T :: [regA s3 rs, ownA ins xs]) := h5.row [rs[k].1, rs[k].2] (by simp)
    have hb6 : Below W.heap.size w4.drew w6 := (below_alloc _ _).mono h5.s.le
    have f1 : w6.cell? b = some (.slice ba B.length bc) := by
      have := below_alloc w4.drew (.cells #[.int .i64 rs[k].1, .int .i64 rs[k].2] 3)
      exact Below.here this hpg
    clear_value w6
    obtain ⟨q', hq', e3, e4⟩ := rg (L := [_]) h6
    rw [hq] at hq'
    obtain rfl := Option.some.inj hq'
    refine ⟨⟨e3, e4, f1⟩, ?_⟩
    refine (some_spec (s := ⟨some (newA w4.drew), 2, 2⟩) (xs := [rs[k].1, rs[k].2]) (rowNow 0 rfl h6.s (by simp)) (by simp) (B.length : Int)).mono ?_
    rintro _ w7 ⟨s7, rfl, ho7, hb7⟩
    have h7 := h6.own ho7 hb7
    obtain ⟨ya, yb, hy⟩ : ∃ ya yb, someI [rs[k].1, rs[k].2] (B.length : Int) = [ya, yb] := ⟨_, _, rfl⟩
    rw [hy] at h7
    have h7 : At W w7 (ownA s7 [ya, yb] :: pgT b B :: prA pp a b M :: arT a T :: [regA s3 rs, ownA ins xs]) := h7.less 1 rfl
    have hs7 : s7.len = 2 := h7.numLen 0 rfl
    have m0 : (0 : Int) < ((s7.len : Nat) : Int) := by omega
    have m1 : (1 : Int) < ((s7.len : Nat) : Int) := by omega
    refine ⟨_, _, _, rfl, ?_⟩
    have h8 := h7.drew
    obtain ⟨q7, hq7, n0⟩ := h8.num 0 rfl (i := 0) (by simp)
    obtain ⟨q7', hq7', n1⟩ := h8.num 0 rfl (i := 1) (by simp)
    rw [hq7] at hq7'
    obtain rfl := Option.some.inj hq7'
    refine ⟨fun y => y.cell? (q7.add (0 : Int).toNat) = some (.int .i64 ya) ∧ y.cell? (q7.add (1 : Int).toNat) = some (.int .i64 yb), ⟨n0, n1⟩, by decide, m0, q7, hq7, _, fun y hy => hy.1, by decide, m1, q7, hq7, _, fun y hy => hy.2, by omega, by omega, q, hq, ?_⟩
    have hfl : k * 2 + 1 < (flat regC rs).length := by rw [flat_length regC_len]; omega
    rw [Int.toNat_natCast]
    obtain ⟨z1, zb1⟩ := h8.s.rowSet 4 rfl hq (j := k * 2) (by omega) (.int .i64 ya)
    refine ⟨h8.s.rowWr 4 rfl hq (by omega), ?_⟩
    have z2 := z1.rowWr 4 rfl hq (j := k * 2 + 1) (by rw [List.length_set]; exact hfl)
    obtain ⟨z3, zb3⟩ := z1.rowSet 4 rfl hq (j := k * 2 + 1) (by rw [List.length_set]; exact hfl) (.int .i64 yb)
    rw [flat_reg2 rs k ya yb hkl] at z3
    refine ⟨by omega, by show (k : Int) < ((s3.len : Nat) : Int); omega, q, hq, ?_⟩
    rw [show (q.add (k * 2)).add 1 = q.add (k * 2 + 1) from add_add _ _ _]
    refine ⟨z2, ?_⟩
    dsimp only
    rw [inc (by omega)]
    refine ⟨⟨rfl, rfl, rfl, rfl, rfl, k + 1, rs.set k (ya, yb), rfl, by omega, by rw [List.length_set]; exact hrs, M, ?_, hp, hnb, l1, l2⟩, by omega⟩
    have z4 := (h8.go z3 (zb1.trans zb3)).drop
    have er : regA s3 (rs.set k (ya, yb)) = rowA 72 2 s3 rs.length (flat regC (rs.set k (ya, yb))) := by unfold regA; rw [List.length_set]
    rw [er]
    exact (z4.front 2 rfl).front 2 rfl |>.perm (.swap _ _ _) |>.perm (.swap _ _ _)
end

end Go.Proofs.YtoclhecldmahiaaDoor
