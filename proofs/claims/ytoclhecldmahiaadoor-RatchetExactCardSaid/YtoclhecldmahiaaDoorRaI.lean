/-
  RatchetExact.
-/
import Derived.Test.YtoclhecldmahiaaDoorRaG
set_option linter.unusedVariables false
set_option linter.unusedVariables false
set_option linter.unusedSimpArgs false
namespace Go.Proofs.YtoclhecldmahiaaDoor
open Go.Lf Go.RowKit

theorem takeT_grown {T : List Tm} {c nx n : Int} {ks : List Ky} (he : takeErr T c nx ks n = 0) (hl : T.length ≤ 400000) :
    Grown T (takeT T c nx ks n).1 402 ∧ inT (takeT T c nx ks n).1 (takeT T c nx ks n).2.1 ∧ inT (takeT T c nx ks n).1 (takeT T c nx ks n).2.2.1 ∧ ∀ g ∈ (takeT T c nx ks n).2.2.2.2, inT (takeT T c nx ks n).1 g.2 := by
  unfold takeErr at he
  split at he
  · rename_i h; exact absurd he h
  rename_i h0
  obtain ⟨hok, hc, hks⟩ := rtErr0.1 (Classical.not_not.1 h0)
  split at he
  · cases he
  unfold takeT
  by_cases hlt : n < nx
  · rw [if_pos hlt] at he ⊢
    by_cases hi : idxK ks n < 0
    · rw [if_pos hi] at he; cases he
    · obtain ⟨i, g, e1, e2, e3⟩ := idxK_at hi
      rw [e1, Int.toNat_natCast, e2]
      exact ⟨(Grown.refl T).up (by omega), hks g (List.mem_of_getElem? e2), hc, fun g hg => hks g ((List.eraseIdx_sublist _ _).subset hg)⟩
  · rw [if_neg hlt] at he ⊢
    by_cases hs : n - nx > 200
    · rw [if_pos hs] at he; cases he
    obtain ⟨m, hm⟩ : ∃ m, m = (n - nx).toNat := ⟨_, rfl⟩
    rw [← hm]
    have hmm : m ≤ 200 := by omega
    -- all keys on the way
    have way : ∀ k, k ≤ 1000 → (k ≠ 0 → inT (runT T c nx n k).1 (runT T c nx n k).2.2.1) ∧ ∀ g ∈ (runT T c nx n k).2.2.2, inT (runT T c nx n k).1 g.2 := by
      intro k
      induction k with
      | zero => exact fun _ => ⟨fun h => absurd rfl h, by simp [runT]⟩
      | succ k ih =>
        intro hk
        obtain ⟨_, i2⟩ := ih (by omega)
        obtain ⟨g1, g2, _⟩ := runT_good hc hl nx n k (by omega)
        have g1l := g1.len
        obtain ⟨tk, td, t1, t2, t3, t4, tg, _, _⟩ := turnT_good g2 (by omega)
        have hin : inT (runT T c nx n (k + 1)).1 (turnT (runT T c nx n k).1 (runT T c nx n k).2.1).2.1 := by
          show inT (turnT _ _).1 _
          rw [t1]; exact inT_of t3
        refine ⟨fun _ => hin, fun g hg => ?_⟩
        have hg : g ∈ (if nx + k < n then (runT T c nx n k).2.2.2 ++ [(nx + (k : Int), (turnT (runT T c nx n k).1 (runT T c nx n k).2.1).2.1)] else (runT T c nx n k).2.2.2) := hg
        have old : g ∈ (runT T c nx n k).2.2.2 → inT (runT T c nx n (k + 1)).1 g.2 := fun h => tg.ext.inT (i2 g h)
        split at hg
        · rw [List.mem_append, List.mem_singleton] at hg
          rcases hg with hg | rfl
          · exact old hg
          · exact hin
        · exact old hg
    obtain ⟨g1, g2, _⟩ := runT_good hc hl nx n (m + 1) (by omega)
    obtain ⟨w1, w2⟩ := way (m + 1) (by omega)
    refine ⟨g1.up (by omega), w1 (by omega), g2, fun g hg => ?_⟩
    have hg := List.mem_of_mem_drop hg
    rw [List.mem_append] at hg
    rcases hg with hg | hg
    · exact g1.ext.inT (hks g hg)
    · exact w2 g hg

/-! how a ratchet comes in -/

structure RatW (w : World) (s : Sl) (x : Int × Int × List Ky) : Prop where
  k : Kys w s x.2.2
  wf : -9223372036854775808 ≤ x.1 ∧ x.1 ≤ 9223372036854775807 ∧ -9223372036854775808 ≤ x.2.1 ∧ x.2.1 ≤ 9223372036854775807

def KyC (_ : World) (cs : List Value) (x : Ky) : Prop := cs = [.int .i64 x.1, .int .i64 x.2]
set_option maxRecDepth 100000 in
theorem reads_ky : Reads Tryd.prog 113 KyC := by
  constructor
  intro H enc w base sp held fuel cs x h
  obtain ⟨hl, n, hf⟩ := struct_fields Tryd.underlying113 h
  have hl : cs.length = 2 := hl
  match cs, hl with
  | [c0, c1], _ =>
    simp only [List.mem_cons, List.not_mem_nil, or_false, forall_eq_or_imp, forall_eq] at hf
    obtain ⟨⟨y0, h0⟩, ⟨y1, h1⟩⟩ := hf
    obtain ⟨m0, e0, _⟩ := (reads_int Tryd.underlying3).go (cs := [c0]) h0
    obtain ⟨m1, e1, w1⟩ := (reads_int Tryd.underlying3).go (cs := [c1]) h1
    simp only [List.cons.injEq, and_true] at e0 e1
    subst e0 e1
    exact ⟨(m0, m1), rfl⟩

theorem reads_cap {P : Program} {T e : TypeId} (ht : P.underlying T = some (.slice e)) : Reads P T (fun _ cs (_ : Unit) => ∃ s : Sl, cs = [.slice s.a s.len s.cap] ∧ s.len ≤ s.cap) := by
  constructor
  intro H enc w base spare held fuel cs x h
  rcases Go.Deep.open_slice ht h with ⟨rfl, _⟩ | ⟨a, len, cap, m, f, D, Pl, rfl, _, hl, hm, hmm, _, hel⟩
  · exact ⟨(), ⟨none, 0, 0⟩, rfl, Nat.le_refl _⟩
  · exact ⟨(), ⟨some a, len, cap⟩, rfl, hl⟩

theorem Kys.ofEls {w : World} {s : Sl} {ks : List Ky} (h : Els 2 KyC w s ks) (hc : s.len ≤ s.cap) : Kys w s ks := by
  refine ⟨h.len, hc, fun i r hi => ?_⟩
  obtain ⟨q, cs, hq, _, hc, he⟩ := h.el i r hi
  subst he
  refine ⟨q, hq, ?_, ?_⟩
  · have := hc 0 (.int .i64 r.1) rfl
    rwa [Nat.add_zero] at this
  · rw [add_add]; exact hc 1 (.int .i64 r.2) rfl

set_option maxRecDepth 100000 in
theorem reads_rat : Reads Tryd.prog 104 (fun w cs (x : Int × Int × List Ky) => ∃ s : Sl, cs = rtC x.1 x.2.1 s ∧ RatW w s x) := by
  constructor
  intro H enc w base sp held fuel cs x h
  obtain ⟨hl, n, hf⟩ := struct_fields Tryd.underlying104 h
  have hl : cs.length = 3 := hl
  match cs, hl with
  | [c0, c1, c2], _ =>
    simp only [List.mem_cons, List.not_mem_nil, or_false, forall_eq_or_imp, forall_eq] at hf
    obtain ⟨⟨y0, h0⟩, ⟨y1, h1⟩, ⟨y2, h2⟩⟩ := hf
    obtain ⟨m0, e0, w0⟩ := (reads_int Tryd.underlying3).go (cs := [c0]) h0
    obtain ⟨m1, e1, w1⟩ := (reads_int Tryd.underlying3).go (cs := [c1]) h1
    obtain ⟨l, s2, e2, hg⟩ := (reads_slice Tryd.underlying102 (n := 2) (by kernel_rfl) (by omega) reads_ky fun _ _ _ h => by rw [show _ = _ from h]; rfl).go (cs := [c2]) h2
    obtain ⟨_, s3, e3, hc⟩ := (reads_cap Tryd.underlying102).go (cs := [c2]) h2
    rw [e2] at e3
    simp only [List.cons.injEq, Value.slice.injEq, and_true] at e3
    have : s2 = s3 := by
      obtain ⟨a, b, c⟩ := s2; obtain ⟨a', b', c'⟩ := s3
      simp only at e3
      obtain ⟨rfl, rfl, rfl⟩ := e3
      rfl
    subst this
    simp only [List.cons.injEq, and_true] at e0 e1 e2
    subst e0 e1 e2
    have f0 := wf_two w0
    have f1 := wf_two w1
    exact ⟨⟨m0, m1, l⟩, s2, rfl, Kys.ofEls hg hc, f0.1, f0.2, f1.1, f1.2⟩

set_option maxRecDepth 100000 in
theorem rat_in {H : Type} {enc : TypeId × Value → H} {w : World} {base b0 : Nat} {r : Reach} {sp : Nat → Bool} {held : Bool} {v : Value} {d : DataW H} {ps : List MemPlace} (hv : Value.okWide Tryd.prog w r b0 104 v)
    (h : DataW.Trod enc Tryd.prog w base sp held 104 v d ps) : ∃ (s : Sl) (x : Int × Int × List Ky), v = rtV x.1 x.2.1 s ∧ RatW w s x := by
  obtain ⟨cs, rfl, _⟩ := WideShapes.okWide_struct Tryd.underlying104 hv
  obtain ⟨x, s, e, hg⟩ := reads_rat.open h
  refine ⟨s, x, ?_, hg⟩
  have e : cs.toList = rtC x.1 x.2.1 s := e
  show Value.agg cs = .agg (rtC x.1 x.2.1 s).toArray
  rw [← e]

/-! a pair, and what is the same -/

def RelK (A B : List Tm) (ks' ks : List Ky) : Prop := ks'.length = ks.length ∧ ∀ (i : Nat) (g' g : Ky), ks'[i]? = some g' → ks[i]? = some g → g'.1 = g.1 ∧ Rel A B g'.2 g.2

theorem flat_set2 : ∀ (ks : List Ky) (i : Nat) (x : Int), i < ks.length → (flat kyC ks).set (i * 2 + 1) (.int .i64 x) = flat kyC (ks.set i ((ks[i]?.getD (0, 0)).1, x))
  | [], _, _, h => by simp at h
  | k :: r, 0, x, _ => rfl
  | k :: r, i + 1, x, h => by
    have e : flat kyC (k :: r) = .int .i64 k.1 :: .int .i64 k.2 :: flat kyC r := rfl
    rw [e, show (i + 1) * 2 + 1 = (i * 2 + 1) + 1 + 1 by omega, List.set_cons_succ, List.set_cons_succ, flat_set2 r i x (by simpa using h), List.set_cons_succ, List.getElem?_cons_succ]
    rfl

section
variable {W w w' : World} {L R R' : List Asn} {pp a b : Addr} {A B : List Tm} {N : Nat}

theorem PairAt.at_ (h : PairAt W w pp a b A B N R) : ∃ L, At W w (L ++ R) := by
  obtain ⟨M, h1, _⟩ := h
  exact ⟨[_, _, _], h1⟩
theorem PairAt.kys (h : PairAt W w pp a b A B N R) {s : Sl} {ks : List Ky} (hK : KeptK W R s ks) : Kys w s ks := by
  obtain ⟨L, h⟩ := h.at_
  exact hK L w h
theorem PairAt.go (h : PairAt W w pp a b A B N R) (f : ∀ L, At W w (L ++ R) → At W w' (L ++ R')) : PairAt W w' pp a b A B N R' := h.onR fun M hM => f [_, _, _] hM

theorem keysP_at (h : PairAt W w pp a b A B N R) (hN : N ≤ 900000) {s : Sl} {ks : List Ky} (hl : ks.length ≤ 1000) (hK : KeptK W R s ks) :
    CallsV Tryd.prog n_trystlaw17_Keys #[.pointer (some pp), .slice s.a s.len s.cap] w fun v w' => ∃ (s' : Sl) (ks' : List Ky) (A' : List Tm), v = .slice s'.a s'.len s'.cap ∧ PairAt W w' pp a b A' B N (kyA s' ks' :: R) ∧ Ext A A' ∧ RelK A' B ks' ks := by
  refine trystlaw17_Keys.lift ?_
  unfold trystlaw17_Keys.main
  obtain ⟨M, h1, hp, hnb, h2, h3⟩ := h
  refine (twin_kys h1 (hK [_, _, _] w h1) (by omega)).mono ?_
  rintro _ w1 ⟨s1, rfl, h4⟩
  have h5 : PairAt W w1 pp a b A B N (kyA s1 ks :: R) := ⟨M, ((h4.front 3 rfl).front 3 rfl).front 3 rfl, hp, hnb, h2, h3⟩
  refine ⟨_, _, _, rfl, ?_⟩
  unfold trystlaw17_Keys.l1
  have hlen : s1.len = ks.length := (h4.kys 0 rfl).len
  refine ⟨fun t w' => ∃ (k : Nat) (ks' : List Ky) (A' : List Tm), t = k ∧ k ≤ ks.length ∧ PairAt W w' pp a b A' B N (kyA s1 ks' :: R) ∧ Ext A A' ∧ ks'.length = ks.length ∧ (∀ (i : Nat) (g' g : Ky), ks'[i]? = some g' → ks[i]? = some g → (i < k → g'.1 = g.1 ∧ Rel A' B g'.2 g.2) ∧ (k ≤ i → g' = g)), fun t _ => ks.length - t.toNat,
    ⟨0, ks, A, rfl, Nat.zero_le _, h5, Ext.refl _, rfl, fun i g' g h h' => ⟨fun h => absurd h (Nat.not_lt_zero _), fun _ => by rw [h] at h'; exact Option.some.inj h'⟩⟩, ?_⟩
  clear h5 h4 h1
  rintro _ w2 ⟨k, ks', A', rfl, hk, h5, hE, hl5, hr⟩
  unfold trystlaw17_Keys.b1
  refine cond_d (p := ((k : Nat) : Int) < ((s1.len : Nat) : Int)) (fun hlt => ?_) fun hge => ?_
  · have hkl : k < ks.length := by omega
    have hkl' : k < ks'.length := by omega
    obtain ⟨q, hq, c1, c2⟩ := (h5.kys KeptK.here).cell k ks'[k] (List.getElem?_eq_getElem hkl')
    refine ⟨by omega, by omega, q, hq, _, by rw [Int.toNat_natCast]; exact c2, (pT_at h5 hN _).mono ?_⟩
    rintro _ w3 ⟨x, A2, rfl, h6, hE2, hrel⟩
    obtain ⟨M, h7, hp, hnb, h8, h9⟩ := h6
    have e1 : (q.add (k * 2)).add 1 = q.add (k * 2 + 1) := add_add _ _ _
    have hfl : k * 2 + 1 < (flat kyC ks').length := by rw [flat_length kyC_len]; omega
    refine ⟨_, rfl, by omega, by omega, q, hq, by rw [Int.toNat_natCast, e1]; exact h7.s.rowWr 3 rfl hq hfl, ?_⟩
    rw [Int.toNat_natCast, e1]
    obtain ⟨h10, b10⟩ := h7.s.rowSet 3 rfl hq hfl (.int .i64 x)
    rw [flat_set2 ks' k x hkl'] at h10
    dsimp only
    rw [inc (by omega)]
    refine ⟨⟨rfl, rfl, k + 1, ks'.set k ((ks'[k]?.getD (0, 0)).1, x), A2, rfl, by omega, ⟨M, ?_, hp, hnb, h8, h9⟩, hE.trans hE2, by rw [List.length_set]; exact hl5, ?_⟩, by omega⟩
    · have h11 := h7.go h10 b10
      have el : (ks'.set k ((ks'[k]?.getD (0, 0)).1, x)).length = ks'.length := List.length_set
      unfold kyA
      rw [el]
      exact h11
    · intro i g' g hg' hg
      rw [List.getElem?_set] at hg'
      by_cases hik : k = i
      · subst hik
        rw [if_pos rfl, if_pos hkl'] at hg'
        obtain rfl := Option.some.inj hg'
        have e := (hr k ks'[k] g (List.getElem?_eq_getElem hkl') hg).2 (Nat.le_refl _)
        refine ⟨fun _ => ⟨by rw [List.getElem?_eq_getElem hkl', ← e]; rfl, ?_⟩, fun h => by omega⟩
        rw [e] at hrel
        exact hrel
      · rw [if_neg hik] at hg'
        obtain ⟨r1, r2⟩ := hr i g' g hg' hg
        exact ⟨fun h => ⟨(r1 (by omega)).1, (r1 (by omega)).2.mono hE2⟩, fun h => r2 (by omega)⟩
  · exact ⟨s1, ks', A', rfl, h5, hE, hl5, fun i g' g hg' hg => (hr i g' g hg' hg).1 (by have := (List.getElem?_eq_some_iff.1 hg).1; omega)⟩

theorem same_at (h : PairAt W w pp a b A B N R) (hN : N ≤ 900000) (c nx : Int) {s : Sl} {ks : List Ky} (hl : ks.length ≤ 1000) (hK : KeptK W R s ks) :
    CallsV Tryd.prog n_trystlaw19_same #[.pointer (some pp), rtV c nx s] w fun v w' => ∃ (k : Int) (s' : Sl) (ks' : List Ky) (A' : List Tm), v = rtV k nx s' ∧ PairAt W w' pp a b A' B N (kyA s' ks' :: R) ∧ Ext A A' ∧ Rel A' B k c ∧ RelK A' B ks' ks := by
  refine trystlaw19_same.lift (r1_2 := s) ?_
  unfold trystlaw19_same.main
  obtain ⟨M, h0, hp, hnb, h2, h3⟩ := h
  intro w1
  have h1 := h0.box 104 (rtC c nx s)
  have h1 : At W w1 (boxA (newA w) (rtC c nx s) :: _) := h1
  clear_value w1
  generalize newA w = rb at h1 ⊢
  intro w2
  have h1 := h1.box 104 [.int .i64 0, .int .i64 0, .slice none 0 0]
  have h1 : At W w2 (boxA (newA w1) [.int .i64 0, .int .i64 0, .slice none 0 0] :: boxA rb (rtC c nx s) :: _) := h1
  clear_value w2
  generalize newA w1 = tb at h1 ⊢
  have h4 : PairAt W w2.drew pp a b A B N (boxA tb [.int .i64 0, .int .i64 0, .slice none 0 0] :: boxA rb (rtC c nx s) :: R) := ⟨M, (h1.drew.perm ((List.perm_append_comm (l₁ := [_, _]) (l₂ := [_, _, _])).append_right R)), hp, hnb, h2, h3⟩
  have cells : ∀ {y : World} {A' : List Tm} {X : List Asn}, PairAt W y pp a b A' B N (X ++ boxA tb [.int .i64 0, .int .i64 0, .slice none 0 0] :: boxA rb (rtC c nx s) :: R) → y.cell? rb = some (.int .i64 c) ∧ y.cell? (rb.add 1) = some (.int .i64 nx) ∧ y.cell? (rb.add 2) = some (.slice s.a s.len s.cap) := by
    intro y A' X hy
    obtain ⟨L, hy⟩ := hy.at_
    have hy := (hy.dropL).dropL
    exact ⟨hy.s.cell0 1 rfl rfl, hy.s.cell 1 rfl 1 rfl, hy.s.cell 1 rfl 2 rfl⟩
  refine ⟨fun y => y.cell? rb = some (.int .i64 c) ∧ y.cell? (rb.add 1) = some (.int .i64 nx) ∧ y.cell? (rb.add 2) = some (.slice s.a s.len s.cap), cells (X := []) h4, _, fun y hy => hy.1, _, fun y hy => hy.2.1, _, _, _, fun y hy => hy.2.2, (pT_at h4 hN c).mono ?_⟩
  rintro _ w3 ⟨k, A2, rfl, h5, hE2, hrel⟩
  refine ⟨_, rfl, cells (X := []) h5, (keysP_at h5 hN hl hK.cons.cons).mono ?_⟩
  rintro _ w4 ⟨s4, ks4, A4, rfl, h6, hE4, hr4⟩
  refine ⟨_, _, _, rfl, cells (X := [_]) h6, ?_⟩
  obtain ⟨M, h7, hp, hnb, h8, h9⟩ := h6
  obtain ⟨m1, m2⟩ := h7.set3 4 rfl (.int .i64 k) (.int .i64 nx) (.slice s4.a s4.len s4.cap)
  refine ⟨m1, ?_⟩
  intro w5
  have h10 : At W w5 (prA pp a b M :: arT a A4 :: pgT b B :: kyA s4 ks4 :: boxA tb (rtC k nx s4) :: boxA rb (rtC c nx s) :: R) := m2
  refine ⟨_, h10.s.cell0 4 rfl rfl, _, h10.s.cell 4 rfl 1 rfl, _, _, _, h10.s.cell 4 rfl 2 rfl, k, s4, ks4, A4, rfl, ⟨M, (h10.less 5 rfl).less 4 rfl, hp, hnb, h8, h9⟩, hE2.trans hE4, hrel.mono hE4, hr4⟩

/-- where the page's arena is a part of the program's, all is the same -/
theorem RelK.same {ks' ks : List Ky} (hA : TOk A) (hB : TOk B) (hE : Ext B A) (h : RelK A B ks' ks) (hi : ∀ g ∈ ks, inT B g.2) : ks' = ks := by
  apply List.ext_getElem?
  intro i
  have hl := h.1
  rcases Nat.lt_or_ge i ks.length with hlt | hge
  · obtain ⟨h1, h2⟩ := h.2 i _ _ (List.getElem?_eq_getElem (by omega)) (List.getElem?_eq_getElem hlt)
    have := h2.same hA hB hE
    rw [if_pos (hi _ (List.getElem_mem hlt))] at this
    rw [List.getElem?_eq_getElem (by omega), List.getElem?_eq_getElem hlt]
    exact congrArg some (Prod.ext h1 this)
  · rw [List.getElem?_eq_none (by omega), List.getElem?_eq_none hge]

theorem pTsame (h : PairAt W w pp a b A B N R) (hN : N ≤ 900000) (hE : Ext B A) {i : Int} (hi : inT B i) :
    CallsV Tryd.prog n_trystlaw10_Pair_T #[.pointer (some pp), .int .i64 i] w fun v w' => ∃ A' : List Tm, v = .int .i64 i ∧ PairAt W w' pp a b A' B N R ∧ Ext A A' := by
  refine (pT_at h hN i).mono ?_
  rintro _ w' ⟨k, A', rfl, h', hE', hr⟩
  have := hr.same h'.ok.1 h'.ok.2 (hE.trans hE')
  rw [if_pos hi] at this
  subst this
  exact ⟨A', rfl, h', hE'⟩

theorem sameSame (h : PairAt W w pp a b A B N R) (hN : N ≤ 900000) (hE : Ext B A) {c nx : Int} {s : Sl} {ks : List Ky} (hl : ks.length ≤ 1000) (hK : KeptK W R s ks) (hc : inT B c) (hi : ∀ g ∈ ks, inT B g.2) :
    CallsV Tryd.prog n_trystlaw19_same #[.pointer (some pp), rtV c nx s] w fun v w' => ∃ (s' : Sl) (A' : List Tm), v = rtV c nx s' ∧ PairAt W w' pp a b A' B N (kyA s' ks :: R) ∧ Ext A A' := by
  refine (same_at h hN c nx hl hK).mono ?_
  rintro _ w' ⟨k, s', ks', A', rfl, h', hE', hr, hrk⟩
  have := hr.same h'.ok.1 h'.ok.2 (hE.trans hE')
  rw [if_pos hc] at this
  subst this
  have := hrk.same h'.ok.1 h'.ok.2 (hE.trans hE') hi
  subst this
  exact ⟨s', A', rfl, h', hE'⟩
end

end Go.Proofs.YtoclhecldmahiaaDoor

/-
  RatchetExact: the law.
-/
set_option linter.unusedVariables false
set_option linter.unusedSimpArgs false
namespace Go.Proofs.YtoclhecldmahiaaDoor
open Go.Lf Go.RowKit

/-- a ratchet's cells -/
def Rt3 (y : World) (q : Addr) (c nx : Int) (s : Sl) : Prop := y.cell? q = some (.int .i64 c) ∧ y.cell? (q.add 1) = some (.int .i64 nx) ∧ y.cell? (q.add 2) = some (.slice s.a s.len s.cap)
theorem KeptK.app {W : World} {R L : List Asn} {s : Sl} {ks : List Ky} (h : KeptK W R s ks) : KeptK W (L ++ R) s ks := fun L' w' hw => h (L' ++ L) w' (by rw [List.append_assoc]; exact hw)
theorem At.rt3 {W w : World} {L R : List Asn} {q : Addr} {c nx : Int} {s : Sl} (h : At W w (L ++ boxA q (rtC c nx s) :: R)) : Rt3 w q c nx s := by
  have h := h.dropL
  exact ⟨h.s.cell0 0 rfl rfl, h.s.cell 0 rfl 1 rfl, h.s.cell 0 rfl 2 rfl⟩
theorem Rt3.below {W w : World} {q : Addr} {c nx : Int} {s : Sl} (h : Rt3 W q c nx s) (hb : Below W.heap.size W w) : Rt3 w q c nx s := ⟨Below.here hb h.1, Below.here hb h.2.1, Below.here hb h.2.2⟩
/-- a box somewhere, and the keys that it has -/
def Somewhere (W : World) (R : List Asn) (q : Addr) (c nx : Int) (s : Sl) (ks : List Ky) : Prop := ∃ L R1, R = L ++ (boxA q (rtC c nx s) :: R1) ∧ KeptK W R1 s ks
theorem Somewhere.cons {W : World} {R : List Asn} {X : Asn} {q : Addr} {c nx : Int} {s : Sl} {ks : List Ky} (h : Somewhere W R q c nx s ks) : Somewhere W (X :: R) q c nx s ks := by
  obtain ⟨L, R1, rfl, h2⟩ := h
  exact ⟨X :: L, R1, rfl, h2⟩
theorem Somewhere.kept {W : World} {R : List Asn} {q : Addr} {c nx : Int} {s : Sl} {ks : List Ky} (h : Somewhere W R q c nx s ks) : KeptK W R s ks := by
  obtain ⟨L, R1, rfl, h2⟩ := h
  exact (h2.cons).app
theorem Somewhere.rt3 {W w : World} {L R : List Asn} {q : Addr} {c nx : Int} {s : Sl} {ks : List Ky} (h : Somewhere W R q c nx s ks) (hw : At W w (L ++ R)) : Rt3 w q c nx s := by
  obtain ⟨L', R1, rfl, h2⟩ := h
  rw [← List.append_assoc] at hw
  exact hw.rt3
theorem Somewhere.here {W : World} {R : List Asn} {q : Addr} {c nx : Int} {s : Sl} {ks : List Ky} (h : KeptK W R s ks) : Somewhere W (boxA q (rtC c nx s) :: R) q c nx s ks := ⟨[], R, rfl, h⟩

/-- what is sent, by either -/
structure Sent (B A : List Tm) (c nx : Int) (ks : List Ky) (m at_ f tc tn : Int) (tk : List Ky) : Prop where
  err : f = sendErr B c nx ks
  bad : f ≠ 0 → m = 0 ∧ at_ = 0 ∧ tc = 0 ∧ tn = 0 ∧ tk = []
  good : f = 0 → m = (turnT B c).2.1 ∧ at_ = nx ∧ tc = (turnT B c).2.2 ∧ tn = nx + 1 ∧ tk = ks ∧ Ext (turnT B c).1 A
theorem Sent.more {B A A' : List Tm} {c nx : Int} {ks : List Ky} {m at_ f tc tn : Int} {tk : List Ky} (h : Sent B A c nx ks m at_ f tc tn tk) (hA : Ext A A') : Sent B A' c nx ks m at_ f tc tn tk :=
  ⟨h.err, h.bad, fun hf => ⟨(h.good hf).1, (h.good hf).2.1, (h.good hf).2.2.1, (h.good hf).2.2.2.1, (h.good hf).2.2.2.2.1, (h.good hf).2.2.2.2.2.trans hA⟩⟩
/-- what is taken, by either -/
structure Took (B : List Tm) (k10 e12 kc kn x17 g : Int) (kk : List Ky) : Prop where
  eq : e12 = g
  bad : g ≠ 0 → k10 = 0 ∧ kc = 0 ∧ kn = 0 ∧ kk = []
  good : g = 0 → x17 = k10 ∧ inT B k10 ∧ inT B kc ∧ ∀ y ∈ kk, inT B y.2

section
variable {W w : World} {R : List Asn} {pp a b r4 : Addr} {A B : List Tm} {c nx : Int} {s : Sl} {ks : List Ky} {RR : Value → World → Prop}

theorem exact_c2 (hRR : ∀ w, Below W.heap.size W w → RR (.bool true) w) (hr : Rt3 W r4 c nx s) (hs : Kys W s ks) (hl : ks.length ≤ 1000) {us ts : Sl} {tk : List Ky} {t u : Addr} {x y m at_ f tc tn : Int}
    (h : PairAt W w pp a b A B 2000 (boxA u (rtC x y us) :: R)) (hsw : Somewhere W R t tc tn ts tk) (hE : Ext B A) (hS : Sent B A c nx ks m at_ f tc tn tk) : trystlaw19_RatchetExact.c2 RR r4 (some pp) m at_ t f u w := by
  have hk : ∀ R', KeptK W R' s ks := fun R' L w' hw => hs.below hw.b
  have c1 : ∀ {w' : World} {R' : List Asn}, At W w' R' → trystlaw19_RatchetExact.c1 RR w' := by
    intro w' R' h'
    unfold trystlaw19_RatchetExact.c1
    refine (wakes19 h').mono ?_
    rintro _ w11 ⟨rfl, h11⟩
    exact ⟨true, rfl, hRR _ h11.b⟩
  unfold trystlaw19_RatchetExact.c2
  have h1 := h.drew
  have hlens := h.lens
  have hrt : ∀ {y : World} {L : List Asn}, At W y L → Rt3 y r4 c nx s := fun hy => hr.below hy.b
  obtain ⟨M, h2, hp, hnb, l1, l2⟩ := h1.toB
  refine ⟨fun y => y.cell? (pp.add 1) = some (.pointer (some b)) ∧ Rt3 y r4 c nx s, ⟨h1.cells.2, hrt h2⟩, pp, rfl, some b, fun y hy => hy.1, _, fun y hy => hy.2.1, _, fun y hy => hy.2.2.1, _, _, _, fun y hy => hy.2.2.2, ?_⟩
  refine (rsend_at h2 c nx (s := s) (by omega) (by omega) (hk _)).mono ?_
  rintro v3 w3 ⟨bad, good⟩
  by_cases hf : sendErr B c nx ks = 0
  · obtain ⟨s3, rfl, h3⟩ := good hf
    have hf0 : f = 0 := by rw [hS.err, hf]
    obtain ⟨rfl, rfl, rfl, rfl, rfl, hE2⟩ := hS.good hf0
    have h0 : rtErr B c at_ tk = 0 := by
      unfold sendErr at hf
      split at hf
      · exact hf
      · rename_i hh; exact Classical.not_not.1 hh
    obtain ⟨hok, hc, hks⟩ := rtErr0.1 h0
    obtain ⟨kx, dx, t1, t2, t3, t4, tg, _, _⟩ := turnT_good hc (by omega)
    have tgl := tg.len
    refine ⟨_, _, _, _, _, _, _, _, rfl, ?_⟩
    have h3 : At W w3 (kyA s3 tk :: pgT b (turnT B c).1 :: prA pp a b M :: arT a A :: boxA u (rtC x y us) :: R) := h3
    obtain ⟨k1, k2⟩ := h3.set3 4 rfl (.int .i64 (turnT B c).2.2) (.int .i64 (at_ + 1)) (.slice s3.a s3.len s3.cap)
    refine ⟨k1, ?_⟩
    intro w4
    have h4 : At W w4 (kyA s3 tk :: pgT b (turnT B c).1 :: prA pp a b M :: arT a A :: boxA u (rtC (turnT B c).2.2 (at_ + 1) s3) :: R) := k2
    clear_value w4
    have h5 : At W w4.drew (pgT b (turnT B c).1 :: prA pp a b M :: arT a A :: boxA u (rtC (turnT B c).2.2 (at_ + 1) s3) :: kyA s3 tk :: R) := (h4.drew).perm ((List.perm_append_comm (l₁ := [_]) (l₂ := [_, _, _, _])).append_right R)
    have P5 := (PairAt.ofB h5 hp tg.ext tgl (tg.nb hnb) l1 l2).more (m := 3000) (by omega)
    have cells : ∀ {z : World} {A' B' : List Tm} {L : List Asn}, PairAt W z pp a b A' B' 3000 (L ++ (boxA u (rtC (turnT B c).2.2 (at_ + 1) s3) :: kyA s3 tk :: R)) → Rt3 z t (turnT B c).2.2 (at_ + 1) ts ∧ Rt3 z u (turnT B c).2.2 (at_ + 1) s3 := by
      intro z A' B' L hz
      obtain ⟨L', hz⟩ := hz.at_
      have hz := hz.dropL
      exact ⟨(hsw.cons.cons).rt3 (L := L) hz, hz.rt3⟩
    refine ⟨fun z => Rt3 z t (turnT B c).2.2 (at_ + 1) ts ∧ Rt3 z u (turnT B c).2.2 (at_ + 1) s3, cells (L := []) P5, ?_⟩
    rw [hf0]
    refine cond_n (fun h => absurd rfl h) fun _ => cond_n (fun h => absurd rfl h) fun _ => cond_t rfl ?_
    have hin1 : inT (turnT B c).1 (turnT B c).2.1 := by rw [t1]; exact inT_of t3
    have hin2 : inT (turnT B c).1 (turnT B c).2.2 := by rw [t2]; exact inT_of t4
    refine (pTsame P5 (by omega) hE2 hin1).mono ?_
    rintro _ w6 ⟨A6, rfl, P6, hE6⟩
    refine ⟨_, rfl, cells (L := []) P6, cond_n (fun h => absurd rfl h) fun _ => cond_n (fun h => absurd rfl h) fun _ => ⟨_, fun z hz => hz.1.1, _, fun z hz => hz.1.2.1, _, _, _, fun z hz => hz.1.2.2, _, fun z hz => hz.2.1, _, fun z hz => hz.2.2.1, _, _, _, fun z hz => hz.2.2.2, ?_⟩⟩
    refine (sameSame P6 (by omega) (hE2.trans hE6) (s := s3) hl KeptK.here.cons hin2 (fun g hg => tg.ext.inT (hks g hg))).mono ?_
    rintro _ w7 ⟨s7, A7, rfl, P7, hE7⟩
    refine ⟨_, _, _, _, _, rfl, cells (L := [_]) P7, ?_⟩
    obtain ⟨M7, h7, _⟩ := P7
    have h8 : At W w7 (prA pp a b M7 :: arT a A7 :: pgT b (turnT B c).1 :: kyA s7 tk :: boxA u (rtC (turnT B c).2.2 (at_ + 1) s3) :: kyA s3 tk :: R) := h7
    refine (rts_at (s := ts) (t := s7) h8 (by omega) ((hsw.kept).cons.cons.cons.cons.cons.cons) KeptK.here.cons.cons.cons).mono ?_
    rintro v9 w9 ⟨g9, _, h9⟩
    obtain rfl := g9 rfl rfl rfl
    exact ⟨true, rfl, cond_f' rfl (c1 h9)⟩
  · obtain ⟨rfl, h3⟩ := bad hf
    have hfe : f = sendErr B c nx ks := hS.err
    have hf0 : f ≠ 0 := by rw [hfe]; exact hf
    obtain ⟨rfl, rfl, rfl, rfl, rfl⟩ := hS.bad hf0
    refine ⟨_, _, _, _, _, _, _, _, rfl, ?_⟩
    have h3 : At W w3 (pgT b B :: prA pp a b M :: arT a A :: boxA u (rtC x y us) :: R) := h3
    obtain ⟨k1, k2⟩ := h3.set3 3 rfl (.int .i64 0) (.int .i64 0) (.slice none 0 0)
    refine ⟨k1, ?_⟩
    intro w4
    have h4 : At W w4 (pgT b B :: prA pp a b M :: arT a A :: boxA u (rtC 0 0 ⟨none, 0, 0⟩) :: R) := k2
    clear_value w4
    have h5 := h4.drew
    refine ⟨fun z => Rt3 z t 0 0 ts, (hsw.cons.cons.cons.cons).rt3 (L := []) h5, ?_⟩
    refine cond_n (fun h => absurd hfe h) fun _ => cond_n (fun _ => ?_) fun h => absurd h hf
    refine cond_n (fun h => absurd rfl h) fun _ => cond_n (fun h => absurd rfl h) fun _ => ⟨_, fun z hz => hz.1, _, fun z hz => hz.2.1, _, _, _, fun z hz => hz.2.2, ?_⟩
    refine (rts_at (s := ts) (t := ⟨none, 0, 0⟩) (ls := []) h5 (by simp) (hsw.kept).cons.cons.cons.cons KeptK.nil).mono ?_
    rintro v6 w6 ⟨g6, _, h6⟩
    obtain rfl := g6 rfl rfl rfl
    exact ⟨true, rfl, (hsw.cons.cons.cons.cons).rt3 (L := []) h6, cond_f' rfl (cond_e (fun h => absurd h hf) fun _ => c1 h6)⟩

theorem exact_c3 (hRR : ∀ w, Below W.heap.size W w → RR (.bool true) w) (hr : Rt3 W r4 c nx s) (hs : Kys W s ks) (hl : ks.length ≤ 1000) {us ts ss : Sl} {tk kk : List Ky} {t u s11 : Addr} {kc kn k10 e12 x17 g m at_ f tc tn : Int}
    (h : PairAt W w pp a b A B 2000 (boxA u (rtC kc kn us) :: R)) (hus : KeptK W R us kk) (hsw : Somewhere W R t tc tn ts tk) (hsk : Somewhere W R s11 kc kn ss kk) (hkk : kk.length ≤ 1000) (hE : Ext B A) (hT : Took B k10 e12 kc kn x17 g kk) (hS : Sent B A c nx ks m at_ f tc tn tk) :
    trystlaw19_RatchetExact.c3 RR r4 (some pp) k10 s11 e12 m at_ t f x17 u g w := by
  unfold trystlaw19_RatchetExact.c3
  have h1 := h.drew
  have cells : ∀ {z : World} {A' : List Tm} {L : List Asn}, PairAt W z pp a b A' B 2000 (L ++ (boxA u (rtC kc kn us) :: R)) → Rt3 z s11 kc kn ss ∧ Rt3 z u kc kn us := by
    intro z A' L hz
    obtain ⟨L', hz⟩ := hz.at_
    have hz := hz.dropL
    exact ⟨hsk.cons.rt3 (L := L) hz, hz.rt3⟩
  refine ⟨fun z => Rt3 z s11 kc kn ss ∧ Rt3 z u kc kn us, cells (L := []) h1, cond_n (fun hh => absurd hT.eq hh) fun _ => cond_n (fun hg => ?_) fun hg => ?_⟩
  · obtain ⟨rfl, rfl, rfl, rfl⟩ := hT.bad hg
    refine cond_n (fun hh => absurd rfl hh) fun _ => ⟨_, fun z hz => hz.1.1, _, fun z hz => hz.1.2.1, _, _, _, fun z hz => hz.1.2.2, ?_⟩
    obtain ⟨M, h2, hp, hnb, l1, l2⟩ := h1
    refine (rts_at (s := ss) (t := ⟨none, 0, 0⟩) (ls := []) h2 (by simp) (hsk.kept).cons.cons.cons.cons KeptK.nil).mono ?_
    rintro v6 w6 ⟨g6, _, h6⟩
    obtain rfl := g6 rfl rfl rfl
    have P6 : PairAt W w6 pp a b A B 2000 (boxA u (rtC 0 0 us) :: R) := ⟨M, h6, hp, hnb, l1, l2⟩
    exact ⟨true, rfl, cells (L := []) P6, cond_f' rfl (cond_e (fun hh => absurd hh hg) fun _ => exact_c2 hRR hr hs hl P6 hsw hE hS)⟩
  · obtain ⟨rfl, i1, i2, i3⟩ := hT.good hg
    rw [hg]
    refine cond_t rfl ((pTsame h1 (by omega) hE i1).mono ?_)
    rintro _ w6 ⟨A6, rfl, P6, hE6⟩
    refine ⟨_, rfl, cells (L := []) P6, cond_n (fun hh => absurd rfl hh) fun _ => ⟨_, fun z hz => hz.1.1, _, fun z hz => hz.1.2.1, _, _, _, fun z hz => hz.1.2.2, _, fun z hz => hz.2.1, _, fun z hz => hz.2.2.1, _, _, _, fun z hz => hz.2.2.2, ?_⟩⟩
    refine (sameSame P6 (by omega) (hE.trans hE6) (s := us) hkk hus.cons i2 i3).mono ?_
    rintro _ w7 ⟨s7, A7, rfl, P7, hE7⟩
    refine ⟨_, _, _, _, _, rfl, cells (L := [_]) P7, ?_⟩
    obtain ⟨M7, h7, hp, hnb, l1, l2⟩ := P7
    refine (rts_at (s := ss) (t := s7) h7 (by omega) (hsk.kept).cons.cons.cons.cons.cons KeptK.here.cons.cons.cons).mono ?_
    rintro v9 w9 ⟨g9, _, h9⟩
    obtain rfl := g9 rfl rfl rfl
    have P9 : PairAt W w9 pp a b A7 B 2000 (boxA u (rtC kc kn us) :: kyA s7 kk :: R) := PairAt.swapR ⟨M7, h9, hp, hnb, l1, l2⟩
    exact ⟨true, rfl, cond_f' rfl (exact_c2 hRR hr hs hl P9 hsw.cons ((hE.trans hE6).trans hE7) (hS.more (hE6.trans hE7)))⟩
end

end Go.Proofs.YtoclhecldmahiaaDoor

/-
  RatchetExact: the law, to its end.
-/
set_option linter.unusedVariables false
set_option linter.unusedSimpArgs false
namespace Go.Proofs.YtoclhecldmahiaaDoor
open Go.Lf Go.RowKit

theorem wf_ge {n : Int} (h : (Lit.int .i64 n).wf = true) : -9223372036854775808 ≤ n := (wf_two h).1

/-- what a take leaves -/
def tookT (T : List Tm) (c nx : Int) (ks : List Ky) (n : Int) : List Tm := if takeErr T c nx ks n = 0 then (takeT T c nx ks n).1 else T
theorem tookT_grown {T : List Tm} {c nx n : Int} {ks : List Ky} (hl : T.length ≤ 400000) : Grown T (tookT T c nx ks n) 402 := by
  unfold tookT
  split
  · rename_i h; exact (takeT_grown h hl).1
  · exact (Grown.refl T).up (by omega)
/-- what is told of a take -/
structure Taken (T : List Tm) (c nx : Int) (ks : List Ky) (n : Int) (k e kc kn : Int) (kk : List Ky) : Prop where
  err : e = takeErr T c nx ks n
  bad : takeErr T c nx ks n ≠ 0 → k = 0 ∧ kc = 0 ∧ kn = 0 ∧ kk = []
  good : takeErr T c nx ks n = 0 → k = (takeT T c nx ks n).2.1 ∧ kc = (takeT T c nx ks n).2.2.1 ∧ kn = (takeT T c nx ks n).2.2.2.1 ∧ kk = (takeT T c nx ks n).2.2.2.2
theorem Taken.both {T : List Tm} {c nx n k e kc kn k' e' kc' kn' : Int} {ks kk kk' : List Ky} (hl : T.length ≤ 400000) (h : Taken T c nx ks n k e kc kn kk) (h' : Taken T c nx ks n k' e' kc' kn' kk') : Took (tookT T c nx ks n) k e kc kn k' e' kk ∧ kc' = kc ∧ kn' = kn ∧ kk' = kk := by
  by_cases he : takeErr T c nx ks n = 0
  · obtain ⟨rfl, rfl, rfl, rfl⟩ := h.good he
    obtain ⟨rfl, rfl, rfl, rfl⟩ := h'.good he
    obtain ⟨g1, g2, g3, g4⟩ := takeT_grown he hl
    have et : tookT T c nx ks n = (takeT T c nx ks n).1 := by unfold tookT; rw [if_pos he]
    rw [et]
    exact ⟨⟨h.err.trans h'.err.symm, fun hne => absurd (h'.err.trans he) hne, fun _ => ⟨rfl, g2, g3, g4⟩⟩, rfl, rfl, rfl⟩
  · obtain ⟨rfl, rfl, rfl, rfl⟩ := h.bad he
    obtain ⟨rfl, rfl, rfl, rfl⟩ := h'.bad he
    exact ⟨⟨h.err.trans h'.err.symm, fun _ => ⟨rfl, rfl, rfl, rfl⟩, fun h0 => absurd (h'.err.symm.trans h0) he⟩, rfl, rfl, rfl⟩
theorem takeT_len {T : List Tm} {c nx n : Int} {ks : List Ky} (he : takeErr T c nx ks n = 0) : (takeT T c nx ks n).2.2.2.2.length ≤ 16 := by
  have h0 : rtErr T c nx ks = 0 := by
    unfold takeErr at he
    split at he
    · exact he
    · rename_i hh; exact Classical.not_not.1 hh
  obtain ⟨hok, _, _⟩ := rtErr0.1 h0
  have := hok.2.2.1
  unfold takeT
  split
  · show (ks.eraseIdx _).length ≤ 16
    have := List.length_eraseIdx_le ks (idxK ks n).toNat
    omega
  · show (last16 _).length ≤ 16
    unfold last16; rw [List.length_drop]; omega
theorem Taken.len {T : List Tm} {c nx n k e kc kn : Int} {ks kk : List Ky} (h : Taken T c nx ks n k e kc kn kk) : kk.length ≤ 16 := by
  by_cases he : takeErr T c nx ks n = 0
  · obtain ⟨rfl, rfl, rfl, rfl⟩ := h.good he; exact takeT_len he
  · obtain ⟨rfl, rfl, rfl, rfl⟩ := h.bad he; simp

section
variable {W w : World} {R : List Asn} {pp a b r4 : Addr} {A B T : List Tm} {c nx n : Int} {s : Sl} {ks : List Ky} {RR : Value → World → Prop}

/-- the program's take, the page's: a pair stays one -/
theorem ptake_at (h : PairAt W w pp a b T T 300 R) (hn1 : -9223372036854775808 ≤ n) {t : Sl} (hl : ks.length ≤ 1000) (hK : KeptK W R t ks) :
    CallsV Tryd.prog n_ratchet_Take #[.pointer (some a), rtV c nx t, .int .i64 n] w fun v w' => ∃ (k e kc kn : Int) (t' : Sl) (kk : List Ky) (L : List Asn), v = .tuple #[.int .i64 k, rtV kc kn t', .int .i64 e] ∧ Taken T c nx ks n k e kc kn kk ∧ PairAt W w' pp a b (tookT T c nx ks n) T 800 (L ++ R) ∧ ∀ R', KeptK W (L ++ R') t' kk := by
  obtain ⟨M, h2, hp, hnb, l1, l2⟩ := h.toA
  have hlens := h.lens
  have hg := tookT_grown (c := c) (nx := nx) (n := n) (ks := ks) (T := T) (by omega)
  have hgl := hg.len
  refine (take_at (s := t) h2 c nx n (by omega) (by omega) hn1 hK.cons.cons).mono ?_
  rintro v w' ⟨bad, good⟩
  by_cases he : takeErr T c nx ks n = 0
  · obtain ⟨t', rfl, h3⟩ := good he
    have et : tookT T c nx ks n = (takeT T c nx ks n).1 := by unfold tookT; rw [if_pos he]
    refine ⟨_, _, _, _, t', _, [kyA t' (takeT T c nx ks n).2.2.2.2], rfl, ⟨he.symm, fun h => absurd he h, fun _ => ⟨rfl, rfl, rfl, rfl⟩⟩, ?_, fun _ => KeptK.here⟩
    rw [et] at hg hgl ⊢
    exact (PairAt.ofA (h3.perm ((List.perm_append_comm (l₁ := [_]) (l₂ := [_, _, _])).append_right R)) hp hg.ext hgl hnb l1 l2).more (by omega)
  · obtain ⟨rfl, h3⟩ := bad he
    have et : tookT T c nx ks n = T := by unfold tookT; rw [if_neg he]
    refine ⟨0, _, 0, 0, ⟨none, 0, 0⟩, [], [], rfl, ⟨rfl, fun _ => ⟨rfl, rfl, rfl, rfl⟩, fun h => absurd h he⟩, ?_, fun _ => KeptK.nil⟩
    rw [et]
    exact (PairAt.ofA (i := 0) h3 hp (Ext.refl _) (by omega) hnb l1 l2).more (by omega)

theorem psend_at (h : PairAt W w pp a b A B 800 R) {t : Sl} (hl : ks.length ≤ 1000) (hK : KeptK W R t ks) (hE : A = tookT B c nx ks n) :
    CallsV Tryd.prog n_ratchet_Send #[.pointer (some a), rtV c nx t] w fun v w' => ∃ (m at_ f tc tn : Int) (t' : Sl) (tk : List Ky) (L : List Asn) (A' : List Tm), v = .tuple #[.int .i64 m, .int .i64 at_, rtV tc tn t', .int .i64 f] ∧ Sent A A' c nx ks m at_ f tc tn tk ∧ Ext A A' ∧ PairAt W w' pp a b A' B 900 (L ++ R) ∧ ∀ R', KeptK W (L ++ R') t' tk := by
  obtain ⟨M, h2, hp, hnb, l1, l2⟩ := h.toA
  have hlens := h.lens
  refine (send_at (s := t) h2 c nx (by omega) (by omega) hK.cons.cons).mono ?_
  rintro v w' ⟨bad, good⟩
  by_cases he : sendErr A c nx ks = 0
  · obtain ⟨t', rfl, h3⟩ := good he
    have h0 : rtErr A c nx ks = 0 := by
      unfold sendErr at he
      split at he
      · exact he
      · rename_i hh; exact Classical.not_not.1 hh
    obtain ⟨hok, hc, hks⟩ := rtErr0.1 h0
    obtain ⟨kx, dx, t1, t2, t3, t4, tg, _, _⟩ := turnT_good hc (by omega)
    refine ⟨_, _, _, _, _, t', ks, [kyA t' ks], (turnT A c).1, rfl, ⟨he.symm, fun h => absurd rfl h, fun _ => ⟨rfl, rfl, rfl, rfl, rfl, Ext.refl _⟩⟩, tg.ext, ?_, fun _ => KeptK.here⟩
    exact (PairAt.ofA (h3.perm ((List.perm_append_comm (l₁ := [_]) (l₂ := [_, _, _])).append_right R)) hp tg.ext tg.len hnb l1 l2).more (by omega)
  · obtain ⟨rfl, h3⟩ := bad he
    refine ⟨0, 0, _, 0, 0, ⟨none, 0, 0⟩, [], [], A, rfl, ⟨rfl, fun _ => ⟨rfl, rfl, rfl, rfl, rfl⟩, fun h => absurd h he⟩, Ext.refl _, ?_, fun _ => KeptK.nil⟩
    exact (PairAt.ofA (i := 0) h3 hp (Ext.refl _) (by omega) hnb l1 l2).more (by omega)

theorem prtake_at (h : PairAt W w pp a b A T 900 R) (hn1 : -9223372036854775808 ≤ n) {t : Sl} (hl : ks.length ≤ 1000) (hK : ∀ R', KeptK W R' t ks) :
    CallsV Tryd.prog n_trystref15_Take #[.pointer (some b), rtV c nx t, .int .i64 n] w fun v w' => ∃ (k e kc kn : Int) (t' : Sl) (kk : List Ky) (L : List Asn), v = .tuple #[.int .i64 k, rtV kc kn t', .int .i64 e] ∧ Taken T c nx ks n k e kc kn kk ∧ PairAt W w' pp a b A (tookT T c nx ks n) 1500 (L ++ R) ∧ ∀ R', KeptK W (L ++ R') t' kk := by
  obtain ⟨M, h2, hp, hnb, l1, l2⟩ := h.toB
  have hlens := h.lens
  have hg := tookT_grown (c := c) (nx := nx) (n := n) (ks := ks) (T := T) (by omega)
  have hgl := hg.len
  refine (rtake_at (s := t) h2 c nx n (by omega) (by omega) hn1 (hK _)).mono ?_
  rintro v w' ⟨bad, good⟩
  by_cases he : takeErr T c nx ks n = 0
  · obtain ⟨t', X, rfl, h3, hX⟩ := good he
    have et : tookT T c nx ks n = (takeT T c nx ks n).1 := by unfold tookT; rw [if_pos he]
    refine ⟨_, _, _, _, t', _, [X], rfl, ⟨he.symm, fun h => absurd he h, fun _ => ⟨rfl, rfl, rfl, rfl⟩⟩, ?_, hX⟩
    rw [et] at hg hgl ⊢
    exact (PairAt.ofB (h3.perm ((List.perm_append_comm (l₁ := [_]) (l₂ := [_, _, _])).append_right R)) hp hg.ext hgl (hg.nb hnb) l1 l2).more (by omega)
  · obtain ⟨rfl, h3⟩ := bad he
    have et : tookT T c nx ks n = T := by unfold tookT; rw [if_neg he]
    refine ⟨0, _, 0, 0, ⟨none, 0, 0⟩, [], [], rfl, ⟨rfl, fun _ => ⟨rfl, rfl, rfl, rfl⟩, fun h => absurd h he⟩, ?_, fun _ => KeptK.nil⟩
    rw [et]
    exact (PairAt.ofB (i := 0) h3 hp (Ext.refl _) (by omega) hnb l1 l2).more (by omega)

theorem Somewhere.app {L : List Asn} {q : Addr} (h : Somewhere W R q c nx s ks) : Somewhere W (L ++ R) q c nx s ks := by
  obtain ⟨L', R1, rfl, h2⟩ := h
  exact ⟨L ++ L', R1, by rw [List.append_assoc], h2⟩

/-- a box is written, or made and written -/
theorem PairAt.box {N : Nat} (h : PairAt W w pp a b A B N R) (kc kn : Int) (t : Sl) : (∀ j, j < 3 → Wr (w.alloc (.cells #[.int .i64 0, .int .i64 0, .slice none 0 0] 104)) ((newA w).add j)) ∧ PairAt W (setCells (newA w) (rtC kc kn t) 0 (w.alloc (.cells #[.int .i64 0, .int .i64 0, .slice none 0 0] 104))) pp a b A B N (boxA (newA w) (rtC kc kn t) :: R) := by
  obtain ⟨M, h1, h2⟩ := h
  obtain ⟨k1, k2⟩ := h1.tmp 104 (zs := [.int .i64 0, .int .i64 0, .slice none 0 0]) (cs := rtC kc kn t) rfl
  exact ⟨k1, M, ((k2.front 3 rfl).front 3 rfl).front 3 rfl, h2⟩
theorem PairAt.box0 {N : Nat} (h : PairAt W w pp a b A B N R) : PairAt W (w.alloc (.cells #[.int .i64 0, .int .i64 0, .slice none 0 0] 104)) pp a b A B N (boxA (newA w) (rtC 0 0 ⟨none, 0, 0⟩) :: R) := by
  obtain ⟨M, h1, h2⟩ := h
  have k2 := h1.box 104 (rtC 0 0 ⟨none, 0, 0⟩)
  exact ⟨M, ((k2.front 3 rfl).front 3 rfl).front 3 rfl, h2⟩
theorem PairAt.set {N : Nat} {q : Addr} {x y : Int} {t0 : Sl} {L : List Asn} (h : PairAt W w pp a b A B N (L ++ boxA q (rtC x y t0) :: R)) (kc kn : Int) (t : Sl) : (∀ j, j < 3 → Wr w (q.add j)) ∧ PairAt W (setCells q (rtC kc kn t) 0 w) pp a b A B N (boxA q (rtC kc kn t) :: (L ++ R)) := by
  have h := h.perm List.perm_middle
  obtain ⟨M, h1, h2⟩ := h
  obtain ⟨k1, k2⟩ := h1.set3 3 rfl (.int .i64 kc) (.int .i64 kn) (.slice t.a t.len t.cap)
  exact ⟨k1, M, k2, h2⟩

theorem exact_c4 (hRR : ∀ w, Below W.heap.size W w → RR (.bool true) w) (hr : Rt3 W r4 c nx s) (hs : Kys W s ks) (hl : ks.length ≤ 1000) (hn1 : -9223372036854775808 ≤ n) {ts ss is_ : Sl} {tk kk : List Ky} {t s11 i9 : Addr} {kc kn k10 e12 m at_ f tc tn : Int}
    (h : PairAt W w pp a b A T 900 R) (hsw : Somewhere W R t tc tn ts tk) (hsk : Somewhere W R s11 kc kn ss kk) (hsi : Somewhere W R i9 c nx is_ ks) (hE : Ext (tookT T c nx ks n) A) (hT : Taken T c nx ks n k10 e12 kc kn kk) (hS : Sent (tookT T c nx ks n) A c nx ks m at_ f tc tn tk) :
    trystlaw19_RatchetExact.c4 RR n r4 (some pp) i9 k10 s11 e12 m at_ t f w := by
  unfold trystlaw19_RatchetExact.c4
  have hk : ∀ R', KeptK W R' s ks := fun R' L w' hw => hs.below hw.b
  obtain ⟨M, h1, hp, hnb, l1, l2⟩ := h
  obtain ⟨i1, i2, i3⟩ := (hsi.cons.cons.cons).rt3 (L := []) h1
  obtain ⟨r1, r2, r3⟩ := hr.below h1.b
  refine ⟨_, i1, _, i2, _, _, _, i3, _, r1, _, r2, _, _, _, r3, ?_⟩
  refine (rts_at (s := is_) (t := s) h1 (by omega) (hsi.cons.cons.cons).kept (hk _)).mono ?_
  rintro v3 w3 ⟨g3, _, h3⟩
  obtain rfl := g3 rfl rfl rfl
  refine ⟨true, rfl, cond_f' rfl ?_⟩
  have P3 : PairAt W w3.drew pp a b A T 900 R := ⟨M, h3.drew, hp, hnb, l1, l2⟩
  have hlT := P3.lens.2
  have cells : ∀ {y : World} {A' B' : List Tm} {R' : List Asn} {N : Nat}, PairAt W y pp a b A' B' N R' → y.cell? (pp.add 1) = some (.pointer (some b)) ∧ Rt3 y r4 c nx s := fun hy => ⟨hy.cells.2, hr.below hy.base⟩
  refine ⟨fun y => y.cell? (pp.add 1) = some (.pointer (some b)) ∧ Rt3 y r4 c nx s, cells P3, pp, rfl, _, fun y hy => hy.1, _, fun y hy => hy.2.1, _, fun y hy => hy.2.2.1, _, _, _, fun y hy => hy.2.2.2, ?_, ?_⟩
  · refine (prtake_at (t := s) P3 hn1 hl hk).mono ?_
    rintro _ w4 ⟨k, e, kc', kn', t', kk', L, rfl, hT', P4, hK4⟩
    obtain ⟨hB, rfl, rfl, rfl⟩ := hT.both (by omega) hT'
    refine ⟨_, _, _, _, _, _, _, rfl, ?_⟩
    intro w5
    obtain ⟨k1, k2⟩ := P4.box kc' kn' t'
    exact ⟨k1, exact_c3 hRR hr hs hl (k2.more (by omega)) (hK4 _) hsw.app hsk.app (by have := hT.len; omega) hE hB hS⟩
  · intro w5
    have P5 := P3.box0
    refine ⟨cells P5, (prtake_at (t := s) P5 hn1 hl hk).mono ?_⟩
    rintro _ w6 ⟨k, e, kc', kn', t', kk', L, rfl, hT', P4, hK4⟩
    obtain ⟨hB, rfl, rfl, rfl⟩ := hT.both (by omega) hT'
    refine ⟨_, _, _, _, _, _, _, rfl, ?_⟩
    obtain ⟨k1, k2⟩ := P4.set kc' kn' t'
    exact ⟨k1, exact_c3 hRR hr hs hl (k2.more (by omega)) (hK4 _) hsw.app hsk.app (by have := hT.len; omega) hE hB hS⟩
theorem exact_c5 (hRR : ∀ w, Below W.heap.size W w → RR (.bool true) w) (hr : Rt3 W r4 c nx s) (hs : Kys W s ks) (hl : ks.length ≤ 1000) (hn1 : -9223372036854775808 ≤ n) {ss is_ : Sl} {kk : List Ky} {s11 i9 : Addr} {kc kn k10 e12 : Int}
    (h : PairAt W w pp a b (tookT T c nx ks n) T 800 R) (hsk : Somewhere W R s11 kc kn ss kk) (hsi : Somewhere W R i9 c nx is_ ks) (hT : Taken T c nx ks n k10 e12 kc kn kk) :
    trystlaw19_RatchetExact.c5 RR n r4 (some pp) i9 k10 s11 e12 w := by
  unfold trystlaw19_RatchetExact.c5
  have P3 := h.drew
  have cells : ∀ {y : World} {A' B' : List Tm} {L : List Asn} {N : Nat}, PairAt W y pp a b A' B' N (L ++ R) → y.cell? pp = some (.pointer (some a)) ∧ Rt3 y i9 c nx is_ := by
    intro y A' B' L N hy
    obtain ⟨L', h'⟩ := hy.at_
    exact ⟨hy.cells.1, hsi.app.rt3 h'⟩
  refine ⟨fun y => y.cell? pp = some (.pointer (some a)) ∧ Rt3 y i9 c nx is_, cells (L := []) P3, pp, rfl, _, fun y hy => hy.1, _, fun y hy => hy.2.1, _, fun y hy => hy.2.2.1, _, _, _, fun y hy => hy.2.2.2, ?_, ?_⟩
  · refine (psend_at (t := is_) (n := n) P3 hl hsi.kept rfl).mono ?_
    rintro _ w4 ⟨m, at_, f, tc, tn, t', tk, L, A', rfl, hS, hE, P4, hK4⟩
    refine ⟨_, _, _, _, _, _, _, _, rfl, ?_⟩
    intro w5
    obtain ⟨k1, k2⟩ := P4.box tc tn t'
    exact ⟨k1, exact_c4 hRR hr hs hl hn1 k2 (Somewhere.here (hK4 _)) hsk.app.cons hsi.app.cons hE hT hS⟩
  · intro w5
    have P5 := P3.box0
    refine ⟨cells (L := [_]) P5, (psend_at (t := is_) (n := n) P5 hl hsi.cons.kept rfl).mono ?_⟩
    rintro _ w6 ⟨m, at_, f, tc, tn, t', tk, L, A', rfl, hS, hE, P4, hK4⟩
    refine ⟨_, _, _, _, _, _, _, _, rfl, ?_⟩
    obtain ⟨k1, k2⟩ := P4.set tc tn t'
    exact ⟨k1, exact_c4 hRR hr hs hl hn1 k2 (Somewhere.here (hK4 _)) hsk.app.cons hsi.app.cons hE hT hS⟩

theorem exact_c6 (hRR : ∀ w, Below W.heap.size W w → RR (.bool true) w) (hr : Rt3 W r4 c nx s) (hs : Kys W s ks) (hl : ks.length ≤ 1000) (hn1 : -9223372036854775808 ≤ n) {is_ : Sl} {i9 : Addr}
    (h : PairAt W w pp a b T T 300 R) (hsi : Somewhere W R i9 c nx is_ ks) :
    trystlaw19_RatchetExact.c6 RR n r4 (some pp) i9 w := by
  unfold trystlaw19_RatchetExact.c6
  have P3 := h.drew
  have cells : ∀ {y : World} {A' B' : List Tm} {L : List Asn} {N : Nat}, PairAt W y pp a b A' B' N (L ++ R) → y.cell? pp = some (.pointer (some a)) ∧ Rt3 y i9 c nx is_ := by
    intro y A' B' L N hy
    obtain ⟨L', h'⟩ := hy.at_
    exact ⟨hy.cells.1, hsi.app.rt3 h'⟩
  refine ⟨fun y => y.cell? pp = some (.pointer (some a)) ∧ Rt3 y i9 c nx is_, cells (L := []) P3, pp, rfl, _, fun y hy => hy.1, _, fun y hy => hy.2.1, _, fun y hy => hy.2.2.1, _, _, _, fun y hy => hy.2.2.2, ?_, ?_⟩
  · refine (ptake_at (t := is_) P3 hn1 hl hsi.kept).mono ?_
    rintro _ w4 ⟨k, e, kc, kn, t', kk, L, rfl, hT, P4, hK4⟩
    refine ⟨_, _, _, _, _, _, _, rfl, ?_⟩
    intro w5
    obtain ⟨k1, k2⟩ := P4.box kc kn t'
    exact ⟨k1, exact_c5 hRR hr hs hl hn1 k2 (Somewhere.here (hK4 _)) hsi.app.cons hT⟩
  · intro w5
    have P5 := P3.box0
    refine ⟨cells (L := [_]) P5, (ptake_at (t := is_) P5 hn1 hl hsi.cons.kept).mono ?_⟩
    rintro _ w6 ⟨k, e, kc, kn, t', kk, L, rfl, hT, P4, hK4⟩
    refine ⟨_, _, _, _, _, _, _, rfl, ?_⟩
    obtain ⟨k1, k2⟩ := P4.set kc kn t'
    exact ⟨k1, exact_c5 hRR hr hs hl hn1 k2 (Somewhere.here (hK4 _)) hsi.app.cons hT⟩

set_option maxRecDepth 100000 in
theorem rexact_spec {W : World} (hT : PT W.heap.size W) {sl : Sl} {l : List Stp} (hS : Stps W sl l) {rs : Sl} {x : Int × Int × List Ky} (hR : RatW W rs x) (n : Int) (hn1 : -9223372036854775808 ≤ n) :
    CallsV Tryd.prog n_trystlaw19_RatchetExact #[.slice sl.a sl.len sl.cap, rtV x.1 x.2.1 rs, .int .i64 n] W fun v w' => v = .bool true ∧ Below W.heap.size W w' := by
  obtain ⟨c, nx, ks⟩ := x
  have hk : Kys W rs ks := hR.k
  refine trystlaw19_RatchetExact.lift (r1_2 := rs) ?_
  unfold trystlaw19_RatchetExact.main
  intro w1
  have h1 : At W w1 [boxA (newA W) (rtC c nx rs)] := (At.start hT).box 104 (rtC c nx rs)
  have hr1 : Rt3 w1 (newA W) c nx rs := h1.rt3 (L := [])
  have hsz : W.heap.size ≤ w1.heap.size := h1.b.size
  clear_value w1
  generalize newA W = r4 at hr1 h1 ⊢
  have hS1 : Stps w1 sl l := hS.keep StpC.stab h1.b
  refine (heavy_spec hS1).mono ?_
  rintro _ _ ⟨rfl, rfl⟩
  refine ⟨_, rfl, cond_c (fun _ => ⟨rfl, h1.b⟩) fun hh => ⟨_, hr1.1, _, hr1.2.1, _, _, _, hr1.2.2, ?_⟩⟩
  refine (heavy_at h1 c nx rs).mono ?_
  rintro _ w2 ⟨rfl, h2⟩
  have hr2 : Rt3 w2 r4 c nx rs := h2.rt3 (L := [])
  refine ⟨_, rfl, cond_d (fun _ => ⟨rfl, h2.b⟩) fun hl100 => ?_⟩
  have hT2 : PT w2.heap.size w2 := (hT.on h2.b).up h2.b.size
  have hS2 : Stps w2 sl l := hS.keep StpC.stab h2.b
  have hk2 : Kys w2 rs ks := hk.below h2.b
  have hkl := hk.len
  have hl : ks.length ≤ 1000 := by omega
  generalize hRR : (fun (v : Value) (w' : World) => v = .bool true ∧ Below W.heap.size W w') = RR
  have hRR' : ∀ w, Below w2.heap.size w2 w → RR (.bool true) w := by
    intro w hb
    rw [← hRR]
    exact ⟨rfl, h2.b.trans (hb.mono h2.b.size)⟩
  unfold trystlaw19_RatchetExact.c7
  refine (pairs_at hT2 hS2 hh).mono ?_
  rintro _ w3 ⟨pp, a, b, rfl, h3, _, _⟩
  have hTl := buildT_len l
  have hTn : Nb (buildT l) := build_n hS2
  generalize buildT l = T at h3 hTl hTn
  have hrr : ∀ {y : World} {L : List Asn}, At w2 y L → Rt3 y r4 c nx rs := fun hy => hr2.below hy.b
  have hKr : ∀ R', KeptK w2 R' rs ks := fun R' L w' hw => hk2.below hw.b
  obtain ⟨r1, r2, r3⟩ := hrr h3
  refine ⟨_, _, rfl, cond_f' rfl ⟨_, r1, _, r2, _, _, _, r3, ?_⟩⟩
  refine (twin_rt h3 c nx (s := rs) (by omega) (hKr _)).mono ?_
  rintro _ w4 ⟨s4, rfl, h4⟩
  have P4 : PairAt w2 w4 pp a b T T 300 [kyA s4 ks] := ⟨[], ((h4.front 3 rfl).front 3 rfl).front 3 rfl, ⟨Nat.zero_le _, fun n x h => by simp at h⟩, hTn, by simp; omega, by omega⟩
  refine ⟨_, _, _, _, _, rfl, ?_⟩
  intro w5
  obtain ⟨k1, k2⟩ := P4.box c nx s4
  refine ⟨k1, ?_⟩
  intro w6
  have P6 : PairAt w2 w6 pp a b T T 300 [boxA (newA w4) (rtC c nx s4), kyA s4 ks] := k2
  clear_value w6
  generalize newA w4 = i9 at P6 ⊢
  have hsi : Somewhere w2 [boxA i9 (rtC c nx s4), kyA s4 ks] i9 c nx s4 ks := Somewhere.here KeptK.here
  have P7 := P6.drew
  have cells : ∀ {y : World} {A' B' : List Tm} {N : Nat}, PairAt w2 y pp a b A' B' N [boxA i9 (rtC c nx s4), kyA s4 ks] → Rt3 y i9 c nx s4 ∧ Rt3 y r4 c nx rs := by
    intro y A' B' N hy
    obtain ⟨L', h'⟩ := hy.at_
    exact ⟨hsi.rt3 h', hr2.below hy.base⟩
  refine ⟨fun y => Rt3 y i9 c nx s4 ∧ Rt3 y r4 c nx rs, cells P7, _, fun y hy => hy.1.1, _, fun y hy => hy.1.2.1, _, _, _, fun y hy => hy.1.2.2, _, fun y hy => hy.2.1, _, fun y hy => hy.2.2.1, _, _, _, fun y hy => hy.2.2.2, ?_⟩
  obtain ⟨M, h7, hp, hnb, l1, l2⟩ := P7
  have back : ∀ {y : World}, At w2 y (prA pp a b M :: arT a T :: pgT b T :: [boxA i9 (rtC c nx s4), kyA s4 ks]) → PairAt w2 y pp a b T T 300 [boxA i9 (rtC c nx s4), kyA s4 ks] := fun hy => ⟨M, hy, hp, hnb, l1, l2⟩
  have last : ∀ {y : World}, At w2 y (prA pp a b M :: arT a T :: pgT b T :: [boxA i9 (rtC c nx s4), kyA s4 ks]) → CallsV Tryd.prog n_ratchet_New #[.int .i64 n] y (fun v_253 w47 =>
      ∃ x_254 : Int, ∃ x_255 : Int, ∃ (a_256 : Option Addr) (l_257 c_258 : Nat), v_253 = .agg #[.int .i64 x_254, .int .i64 x_255, .slice a_256 l_257 c_258] ∧
      CallsV Tryd.prog n_trystkeep_Ratchet #[.agg #[.int .i64 x_254, .int .i64 x_255, .slice a_256 l_257 c_258], .agg #[.int .i64 n, .int .i64 0, .slice none 0 0]] w47 (fun v_259 w48 =>
      ∃ b_260 : Bool, v_259 = .bool b_260 ∧ cond (!b_260) (RR (.bool false) w48) (trystlaw19_RatchetExact.c6 RR n r4 (some pp) i9 w48))) := by
    intro y hy
    refine (rnew_at hy n).mono ?_
    rintro _ w8 ⟨rfl, h8⟩
    refine ⟨_, _, _, _, _, rfl, ?_⟩
    refine (rts_at (s := ⟨none, 0, 0⟩) (t := ⟨none, 0, 0⟩) (ks := []) (ls := []) h8 (by simp) KeptK.nil KeptK.nil).mono ?_
    rintro v9 w9 ⟨g9, _, h9⟩
    obtain rfl := g9 rfl rfl rfl
    exact ⟨true, rfl, cond_f' rfl (exact_c6 hRR' hr2 hk2 hl hn1 (back h9) hsi)⟩
  refine (check_at h7 c nx (s := s4) (by omega) hsi.cons.cons.cons.kept).mono ?_
  rintro _ w8 ⟨rfl, h8⟩
  refine ⟨_, rfl, cells (back h8), (rright_at h8 c nx (s := rs) (by omega) (hKr _)).mono ?_⟩
  rintro _ w9 ⟨rfl, h9⟩
  refine ⟨_, rfl, cells (back h9), ?_⟩
  have hb : (!(((if RtOk nx ks then (0 : Int) else 1) == 0) == decide (RtOk nx ks))) = false := by
    by_cases hok : RtOk nx ks
    · rw [if_pos hok, decide_eq_true hok]; rfl
    · rw [if_neg hok, decide_eq_false hok]; rfl
  refine cond_f' hb ⟨_, fun y hy => hy.2.1, _, fun y hy => hy.2.2.1, _, _, _, fun y hy => hy.2.2.2, (rright_at h9 c nx (s := rs) (by omega) (hKr _)).mono ?_⟩
  rintro _ w10 ⟨rfl, h10⟩
  refine ⟨_, rfl, cells (back h10), cond_not (fun hf => ?_) fun ht => last h10⟩
  have hno := of_decide_eq_false hf
  refine ⟨_, fun y hy => hy.1.1, _, fun y hy => hy.1.2.1, _, _, _, fun y hy => hy.1.2.2, (check_at h10 c nx (s := s4) (by omega) hsi.cons.cons.cons.kept).mono ?_⟩
  rintro _ w11 ⟨rfl, h11⟩
  rw [if_neg hno]
  exact ⟨_, rfl, cond_n (fun h => absurd rfl h) fun _ => last h11⟩
end

end Go.Proofs.YtoclhecldmahiaaDoor
