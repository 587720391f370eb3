/-
  A register's value, once written, stays; its value is what was written first; as many answers come back as there were payloads.
-/
import Derived.Test.YtoclhecldmahiaaDoorMxE
set_option linter.unusedVariables false
set_option linter.unusedVariables false
set_option linter.unusedSimpArgs false
namespace Go.Proofs.YtoclhecldmahiaaDoor
open Go.Lf Go.RowKit

def PairC (_ : World) (cs : List Value) (x : Rg) : Prop := cs = regC x
set_option maxRecDepth 100000 in
theorem reads_pair : Reads Tryd.prog 59 PairC := by
  constructor
  intro H enc w base sp held fuel cs x h
  obtain ⟨hl, m, hf⟩ := array_elems Tryd.underlying59 h
  have hl : cs.length = 2 := hl
  match cs, hl with
  | [c0, c1], _ =>
    obtain ⟨y0, h0⟩ := hf 0 (by omega)
    obtain ⟨y1, h1⟩ := hf 1 (by omega)
    obtain ⟨m0, e0, _⟩ := (reads_int Tryd.underlying3).go (cs := [c0]) h0
    obtain ⟨m1, e1, _⟩ := (reads_int Tryd.underlying3).go (cs := [c1]) h1
    simp only [List.cons.injEq, and_true] at e0 e1
    subst e0 e1
    exact ⟨(m0, m1), rfl⟩

theorem Regs.ofEls {w : World} {s : Sl} {rs : List Rg} (h : Els 2 PairC w s rs) : Regs w s rs := by
  refine ⟨h.len, fun i r hi => ?_⟩
  obtain ⟨q, cs, hq, _, hc, he⟩ := h.el i r hi
  subst he
  refine ⟨q, hq, ?_, ?_⟩
  · have := hc 0 (.int .i64 r.1) rfl
    rwa [Nat.add_zero] at this
  · rw [add_add]; exact hc 1 (.int .i64 r.2) rfl

set_option maxRecDepth 100000 in
theorem pairs_in {H : Type} {enc : TypeId × Value → H} {w : World} {base b0 : Nat} {r : Reach} {sp : Nat → Bool} {held : Bool} {v : Value} {d : DataW H} {ps : List MemPlace} (hv : Value.okWide Tryd.prog w r b0 56 v)
    (h : DataW.Trod enc Tryd.prog w base sp held 56 v d ps) : ∃ (s : Sl) (xs : List Rg), v = .slice s.a s.len s.cap ∧ Regs w s xs := by
  obtain ⟨a, len, cap, rfl⟩ := WideShapes.okWide_slice Tryd.underlying56 hv
  obtain ⟨l, s, e, hg⟩ := (reads_slice Tryd.underlying56 (n := 2) (by kernel_rfl) (by omega) reads_pair fun _ _ _ h => by rw [show _ = _ from h]; rfl).open h
  have e : [Value.slice a len cap] = [.slice s.a s.len s.cap] := e
  exact ⟨s, l, by simpa using e, Regs.ofEls hg⟩

theorem regs_spec {w : World} {s t : Sl} {a b : List Rg} (h : Regs w s a) (h' : Regs w t b) (hl : a.length ≤ 1000000) :
    CallsV Tryd.prog n_trystkeep_Regs #[.slice s.a s.len s.cap, .slice t.a t.len t.cap] w fun v w' => v = .bool (decide (a = b)) ∧ Same w w' := by
  refine trystkeep_Regs.lift ?_
  unfold trystkeep_Regs.main
  have l1 := h.len
  have l2 := h'.len
  refine cond_n (fun hne => ?_) fun heq => ?_
  · exact ⟨by rw [decide_eq_false]; rintro rfl; exact hne (by rw [l1, l2]), Same.refl w⟩
  · have hll : a.length = b.length := by omega
    unfold trystkeep_Regs.l1
    refine ⟨fun x w' => ∃ k : Nat, x = k ∧ k ≤ a.length ∧ (∀ j, j < k → a[j]? = b[j]?) ∧ Same w w', fun x _ => a.length - x.toNat, ⟨0, rfl, by omega, by intro j hj; omega, Same.refl w⟩, ?_⟩
    rintro _ w1 ⟨k, rfl, hk, hpre, hs⟩
    unfold trystkeep_Regs.b1
    refine cond_d (p := ((k : Nat) : Int) < ((s.len : Nat) : Int)) (fun hlt => ?_) fun hge => ?_
    · have hka : k < a.length := by omega
      have hkb : k < b.length := by omega
      obtain ⟨q1, hq1, c1, c2⟩ := (h.same hs).cell k _ (List.getElem?_eq_getElem hka)
      obtain ⟨q2, hq2, d1, d2⟩ := (h'.same hs).cell k _ (List.getElem?_eq_getElem hkb)
      have hs' : Same w w1.drew := hs.trans (Same.drew w1)
      have bad : a[k] ≠ b[k] → decide (a = b) = false := fun hn => by
        rw [decide_eq_false]; rintro rfl; exact hn rfl
      refine ⟨by omega, hlt, q1, hq1, _, by rw [Int.toNat_natCast]; exact c1, by omega, by omega, q2, hq2, _, by rw [Int.toNat_natCast]; exact d1, cond_n (fun hn => ?_) fun he1 => ?_⟩
      · exact ⟨by rw [bad (fun e => hn (by rw [e]))], hs'⟩
      · refine ⟨by omega, hlt, q1, hq1, _, by rw [Int.toNat_natCast]; exact c2, by omega, by omega, q2, hq2, _, by rw [Int.toNat_natCast]; exact d2, cond_n (fun hn => ?_) fun he2 => ?_⟩
        · exact ⟨by rw [bad (fun e => hn (by rw [e]))], hs'⟩
        · dsimp only
          rw [inc (by omega)]
          refine ⟨⟨rfl, rfl, k + 1, rfl, by omega, fun j hj => ?_, hs'⟩, by (try dsimp only); omega⟩
          rcases Nat.lt_or_eq_of_le (Nat.le_of_lt_succ hj) with hj | rfl
          · exact hpre j hj
          · rw [List.getElem?_eq_getElem hka, List.getElem?_eq_getElem hkb, Prod.ext he1 he2]
    · refine ⟨?_, hs⟩
      rw [decide_eq_true]
      apply List.ext_getElem hll
      intro j h1 h2
      have := hpre j (by omega)
      rw [List.getElem?_eq_getElem h1, List.getElem?_eq_getElem h2] at this
      exact Option.some.inj this

/-! the law -/

/-- what stands in the registers, and what was written first -/
structure OnceI (T : List Tm) (F : List Int) (rs : List Rg) : Prop where
  len : F.length = 5
  ids : ∀ g ∈ rs, ∃ k x : Nat, k < 5 ∧ g.1 = x ∧ T[x]? = some ⟨1, ((100 + k : Nat) : Int), []⟩ ∧ F[k]? = some g.2 ∧ g.2 ≠ 0 ∧ inT T g.2
  all : ∀ (k : Nat) (v : Int), F[k]? = some v → v ≠ 0 → ∃ x : Nat, T[x]? = some ⟨1, ((100 + k : Nat) : Int), []⟩ ∧ ((x : Int), v) ∈ rs
theorem OnceI.mono {T T' : List Tm} (he : Ext T T') {F : List Int} {rs : List Rg} (h : OnceI T F rs) : OnceI T' F rs :=
  ⟨h.len, fun g hg => by obtain ⟨k, x, h1, h2, h3, h4, h5, h6⟩ := h.ids g hg; exact ⟨k, x, h1, h2, he _ _ h3, h4, h5, he.inT h6⟩, fun k v hv h0 => by obtain ⟨x, h1, h2⟩ := h.all k v hv h0; exact ⟨x, he _ _ h1, h2⟩⟩

theorem OnceI.val {T : List Tm} (hok : TOk T) {F : List Int} {rs : List Rg} (h : OnceI T F rs) {k r : Nat} (hk : k < 5) (hr : T[r]? = some ⟨1, ((100 + k : Nat) : Int), []⟩) :
    (hasId rs r = true ↔ F[k]?.getD 0 ≠ 0) ∧ ∀ nw, valT nw rs r = if F[k]?.getD 0 = 0 then nw else F[k]?.getD 0 := by
  have hl := h.len
  have hFk : F[k]? = some (F[k]?.getD 0) := by rw [List.getElem?_eq_getElem (by omega)]; rfl
  have same : ∀ g ∈ rs, (g.1 == (r : Int)) = true → g.2 = F[k]?.getD 0 ∧ g.2 ≠ 0 := by
    intro g hg he
    obtain ⟨k', x, h1, h2, h3, h4, h5, _⟩ := h.ids g hg
    have e : g.1 = (r : Int) := by simpa using he
    have ex : x = r := by omega
    rw [ex] at h3
    have := some_two h3 hr
    have ek : k' = k := by simp at this; omega
    subst ek
    rw [h4]
    exact ⟨rfl, h5⟩
  have has : hasId rs r = true ↔ F[k]?.getD 0 ≠ 0 := by
    unfold hasId
    rw [List.any_eq_true]
    constructor
    · rintro ⟨g, hg, he⟩
      obtain ⟨h1, h2⟩ := same g hg he
      rw [← h1]; exact h2
    · intro h0
      obtain ⟨x, h1, h2⟩ := h.all k _ hFk h0
      have ex := hok.once _ _ _ h1 hr
      subst ex
      exact ⟨_, h2, by simp⟩
  refine ⟨has, fun nw => ?_⟩
  unfold valT
  by_cases h0 : F[k]?.getD 0 = 0
  · rw [if_pos h0]
    have hn : ∀ g ∈ rs, ¬ (g.1 == (r : Int)) = true := fun g hg he => by
      have := same g hg he
      omega
    rw [List.find?_eq_none.2 hn]
    rfl
  · rw [if_neg h0]
    have hh := has.2 h0
    unfold hasId at hh
    rw [List.any_eq_true] at hh
    cases hf : rs.find? (fun g => g.1 == (r : Int)) with
    | none =>
      obtain ⟨g, hg, he⟩ := hh
      exact absurd he (List.find?_eq_none.1 hf g hg)
    | some g =>
      have hg := List.mem_of_find?_eq_some hf
      have he := List.find?_some hf
      exact (same g hg he).1

theorem do_one {T : List Tm} (hok : TOk T) (h2 : T[2]? = some ⟨2, 0, []⟩) (rs : List Rg) (x : Int) : doT T rs [x] = ((ansT 2 [rqOf T x] rs 0).1, [(ansT 2 [rqOf T x] rs 0).2]) := by
  unfold doT
  rw [word_there hok h2]
  rfl
theorem ans_put {n2 : Int} {rs : List Rg} {r v : Int} : ansT n2 [(71, [r, v])] rs 0 = (if hasId rs r then rs else rs ++ [(r, v)], valT n2 (if hasId rs r then rs else rs ++ [(r, v)]) r) := by
  have e : (rq [(71, [r, v])] 0).1 = 71 := rfl
  unfold ansT
  rw [if_pos e]
  rfl
theorem ans_get {n2 : Int} {rs : List Rg} {r : Int} : ansT n2 [(72, [r])] rs 0 = (rs, valT n2 rs r) := by
  have e : (rq [(72, [r])] 0).1 = 72 := rfl
  unfold ansT
  rw [if_neg (by rw [e]; decide), if_pos e]
  rfl

theorem OnceI.put {T : List Tm} (hok : TOk T) {F : List Int} {rs : List Rg} (h : OnceI T F rs) {k r v : Nat} (hk : k < 5) (hr : T[r]? = some ⟨1, ((100 + k : Nat) : Int), []⟩) (hv : v ≠ 0) (hvT : inT T (v : Int)) :
    OnceI T (if F[k]?.getD 0 = 0 then F.set k v else F) (if hasId rs r then rs else rs ++ [((r : Int), (v : Int))]) ∧
      valT 2 (if hasId rs r then rs else rs ++ [((r : Int), (v : Int))]) r = (if F[k]?.getD 0 = 0 then F.set k v else F)[k]?.getD 0 ∧ (if F[k]?.getD 0 = 0 then F.set k v else F)[k]?.getD 0 ≠ 0 := by
  obtain ⟨h1, h2⟩ := h.val hok hk hr
  have hl := h.len
  by_cases h0 : F[k]?.getD 0 = 0
  · have hh : ¬ hasId rs r = true := fun hh => h1.1 hh h0
    rw [if_pos h0, if_neg hh]
    have hset : (F.set k (v : Int))[k]? = some (v : Int) := by rw [List.getElem?_set_self (by omega)]
    have hn : OnceI T (F.set k v) (rs ++ [((r : Int), (v : Int))]) := by
      refine ⟨by simp [hl], fun g hg => ?_, fun k' v' hv' h0' => ?_⟩
      · rw [List.mem_append, List.mem_singleton] at hg
        rcases hg with hg | rfl
        · obtain ⟨k', x, a1, a2, a3, a4, a5, a6⟩ := h.ids g hg
          refine ⟨k', x, a1, a2, a3, ?_, a5, a6⟩
          rw [List.getElem?_set_ne]
          · exact a4
          · rintro rfl
            rw [a4] at h0
            exact a5 h0
        · exact ⟨k, r, hk, rfl, hr, hset, by show (v : Int) ≠ 0; omega, hvT⟩
      · by_cases hkk : k = k'
        · subst hkk
          rw [hset] at hv'
          obtain rfl := Option.some.inj hv'
          exact ⟨r, hr, by simp⟩
        · rw [List.getElem?_set_ne hkk] at hv'
          obtain ⟨x, a1, a2⟩ := h.all k' v' hv' h0'
          exact ⟨x, a1, List.mem_append_left _ a2⟩
    have := (hn.val hok hk hr).2 2
    rw [hset] at this
    rw [hset]
    have hv0 : (v : Int) ≠ 0 := by omega
    refine ⟨hn, ?_, hv0⟩
    rw [this]
    show (if (v : Int) = 0 then 2 else (v : Int)) = v
    rw [if_neg hv0]
  · have hh : hasId rs r = true := h1.2 h0
    rw [if_neg h0, if_pos hh]
    refine ⟨h, ?_, h0⟩
    rw [h2 2, if_neg h0]

theorem Regs.take {w : World} {s : Sl} {rs : List Rg} (h : Regs w s rs) {n : Nat} (hn : n ≤ rs.length) (a : Option Addr) (c : Nat) (ha : a = s.a) : Regs w ⟨a, n, c⟩ (rs.take n) := by
  subst ha
  refine ⟨by simp; omega, fun i r hi => ?_⟩
  rw [List.getElem?_take] at hi
  split at hi
  · exact h.cell i r hi
  · cases hi

theorem cap_ge {W w : World} {L : List Asn} (k : Nat) {s : Sl} {rs : List Rg} (hk : L[k]? = some (regA s rs)) (h : At W w L) : s.len ≤ s.cap := by
  obtain ⟨F, h1, _⟩ := h.s.get k hk
  rcases h1.1.2 with ⟨h1, h0⟩ | ⟨g, cap, cur, h1, _, _, hc, _⟩
  · simp only [Value.slice.injEq] at h1; omega
  · simp only [Value.slice.injEq] at h1; omega

set_option maxRecDepth 100000 in
theorem once_spec {W : World} (hT : PT W.heap.size W) {s : Sl} {xs : List Rg} (hx : Regs W s xs) (n : Int) :
    CallsV Tryd.prog n_trystlaw24_MixOnce #[.int .i64 n, .slice s.a s.len s.cap] W fun v w' => v = .bool true ∧ Below W.heap.size W w' := by
  refine trystlaw24_MixOnce.lift ?_
  unfold trystlaw24_MixOnce.main
  have hsl := hx.len
  refine cond_d (fun _ => ⟨rfl, Below.refl _ _⟩) fun h80 => ?_
  generalize hRR : (fun (v : Value) (w' : World) => v = .bool true ∧ Below W.heap.size W w') = RR
  refine (new_at (At.start hT)).mono ?_
  rintro _ w1 ⟨p, rfl, h1⟩
  refine ⟨_, rfl, cond_f' rfl ?_⟩
  refine (mk0 2 71 h1 (by omega)).mono ?_
  rintro _ w2 ⟨rfl, h2⟩
  have p1 : put [] ⟨2, 71, []⟩ = ([⟨2, 71, []⟩], 0, 0) := by decide
  rw [p1] at h2 ⊢
  refine ⟨_, _, rfl, (mk0 2 72 h2 (by omega)).mono ?_⟩
  rintro _ w3 ⟨rfl, h3⟩
  have p2 : put [⟨2, 71, []⟩] ⟨2, 72, []⟩ = ([⟨2, 71, []⟩, ⟨2, 72, []⟩], 1, 0) := by decide
  rw [p2] at h3 ⊢
  refine ⟨_, _, rfl, (mk0 2 0 h3 (by omega)).mono ?_⟩
  rintro _ w4 ⟨rfl, h4⟩
  have p3 : put [⟨2, 71, []⟩, ⟨2, 72, []⟩] ⟨2, 0, []⟩ = ([⟨2, 71, []⟩, ⟨2, 72, []⟩, ⟨2, 0, []⟩], 2, 0) := by decide
  rw [p3] at h4 ⊢
  refine ⟨_, _, rfl, cond_n (fun h => absurd rfl h) fun _ => cond_n (fun h => absurd rfl h) fun _ => cond_n (fun h => absurd rfl h) fun _ => ?_⟩
  unfold trystlaw24_MixOnce.c6
  refine ⟨by omega, by omega, by omega, by omega, ?_⟩
  intro w5
  have h5 : At W w5 [ownA ⟨some (newA w4), 5, 5⟩ [0, 0, 0, 0, 0], arT p [⟨2, 71, []⟩, ⟨2, 72, []⟩, ⟨2, 0, []⟩]] := h4.own (make_ints (n := 5) (e := 3) (k := .i64) (by decide)) (below_alloc _ _)
  clear_value w5
  obtain ⟨sf, hsf⟩ : ∃ sf : Sl, sf = ⟨some (newA w4), 5, 5⟩ := ⟨_, rfl⟩
  rw [← hsf] at h5
  show trystlaw24_MixOnce.l2 RR s (some p) 0 1 2 ⟨some (newA w4), 5, 5⟩ ⟨none, 0, 0⟩ 0 w5
  rw [← hsf]
  clear hsf h4 h3 h2 h1
  unfold trystlaw24_MixOnce.l2
  refine ⟨fun x w' => ∃ (i : Nat) (rs : List Rg) (F : List Int) (T : List Tm), x.2 = i ∧ i ≤ xs.length ∧ rs.length ≤ i ∧ T.length ≤ 3 + 4 * i ∧ T[0]? = some ⟨2, 71, []⟩ ∧ T[1]? = some ⟨2, 72, []⟩ ∧ T[2]? = some ⟨2, 0, []⟩ ∧ OnceI T F rs ∧ At W w' [regA x.1 rs, ownA sf F, arT p T], fun x _ => xs.length - x.2.toNat,
    ⟨0, [], [0, 0, 0, 0, 0], _, rfl, by omega, by simp, by simp, rfl, rfl, rfl, ⟨rfl, by simp, fun k v hv h0 => ?_⟩, h5.regNil⟩, ?_⟩
  · match k with
    | 0 | 1 | 2 | 3 | 4 => simp at hv; exact absurd hv.symm h0
    | k + 5 => simp at hv
  clear h5
  rintro ⟨st, _⟩ w6 ⟨i, rs, F, T, rfl, hi, hrl, hTl, t0, t1, t2, hI, h6⟩
  show trystlaw24_MixOnce.b2 _ _ s (some p) 0 1 2 sf st (i : Int) w6
  have h6 : At W w6 [regA st rs, ownA sf F, arT p T] := h6
  unfold trystlaw24_MixOnce.b2
  have hFl := hI.len
  have hsfl : sf.len = 5 := by rw [h6.numLen 1 rfl]; exact hFl
  refine cond_d (p := ((i : Nat) : Int) < ((s.len : Nat) : Int)) (fun hlt => ?_) fun hge => ?_
  · have hix : i < xs.length := by omega
    obtain ⟨u, hu⟩ : ∃ u, xs[i]? = some u := ⟨_, List.getElem?_eq_getElem hix⟩
    have cellsX : ∀ {y : World} {L : List Asn}, At W y L → ∃ q, s.a = some q ∧ y.cell? ((q.add (((i : Nat) : Int).toNat * 2)).add (0 : Int).toNat) = some (.int .i64 u.1) ∧ y.cell? ((q.add (((i : Nat) : Int).toNat * 2)).add (1 : Int).toNat) = some (.int .i64 u.2) := by
      intro y L hy
      obtain ⟨q, hq, c1, c2⟩ := (hx.below hy.b).cell i u hu
      exact ⟨q, hq, by rw [Int.toNat_natCast]; show y.cell? ((q.add (i * 2)).add 0) = _; rw [add_zero]; exact c1, by rw [Int.toNat_natCast]; exact c2⟩
    obtain ⟨q, hq, c1, _⟩ := cellsX h6
    refine ⟨by omega, hlt, q, hq, by omega, by decide, _, c1, by decide, ?_⟩
    obtain ⟨k, hk⟩ : ∃ k : Nat, k < 5 ∧ um u.1 5 = k := by
      have : 0 ≤ um u.1 5 ∧ um u.1 5 < 5 := um_in u.1 (m := 5) (by omega)
      exact ⟨(um u.1 5).toNat, by omega, by omega⟩
    have ek : IntKind.i64.wrap (Int.tmod (IntKind.u64.wrap u.1) 5) = (k : Int) := by
      show IntKind.i64.wrap (um u.1 5) = _
      rw [hk.2, w64 (by omega)]
    have hk := hk.1
    rw [ek]
    dsimp only
    have e100 : IntKind.i64.wrap (100 + (k : Int)) = ((100 + k : Nat) : Int) := by rw [w64 (by omega)]; omega
    rw [e100]
    refine (mk0 1 ((100 + k : Nat) : Int) (h6.front 2 rfl) (by omega)).mono ?_
    rintro _ w7 ⟨rfl, h7⟩
    obtain ⟨r, r1, r2, r3, rg⟩ := put_plain' (T := T) (k := 1) (n := ((100 + k : Nat) : Int)) (.inl rfl) (by omega) (by omega) (by omega)
    have rl := rg.len
    rw [r1, r2]
    generalize (put T ⟨1, ((100 + k : Nat) : Int), []⟩).1 = T1 at h7 r3 rg rl
    obtain ⟨q, hq, _, c2⟩ := cellsX h7
    refine ⟨_, _, rfl, by omega, hlt, q, hq, by omega, by decide, _, c2, by decide, ?_⟩
    obtain ⟨m, hm⟩ : ∃ m : Nat, m < 50 ∧ um u.2 50 = m := by
      have : 0 ≤ um u.2 50 ∧ um u.2 50 < 50 := um_in u.2 (m := 50) (by omega)
      exact ⟨(um u.2 50).toNat, by omega, by omega⟩
    have em : IntKind.i64.wrap (1000 + IntKind.i64.wrap (Int.tmod (IntKind.u64.wrap u.2) 50)) = ((1000 + m : Nat) : Int) := by
      show IntKind.i64.wrap (1000 + IntKind.i64.wrap (um u.2 50)) = _
      rw [hm.2, w64 (n := (m : Int)) (by omega), w64 (by omega)]; omega
    rw [em]
    refine (mk0 1 ((1000 + m : Nat) : Int) h7 (by omega)).mono ?_
    rintro _ w8 ⟨rfl, h8⟩
    obtain ⟨v, v1, v2, v3, vg⟩ := put_plain' (T := T1) (k := 1) (n := ((1000 + m : Nat) : Int)) (.inl rfl) (by omega) (by omega) (by omega)
    have vl := vg.len
    rw [v1, v2]
    generalize (put T1 ⟨1, ((1000 + m : Nat) : Int), []⟩).1 = T2 at h8 v3 vg vl
    refine ⟨_, _, rfl, ?_⟩
    have r4 := vg.ext _ _ r3
    have e02 := rg.ext.trans vg.ext
    refine (mk 9 0 [((0 : Nat) : Int), (r : Int), (v : Int)] h8 (by omega) (by simp)).mono ?_
    rintro _ w10 ⟨rfl, h10⟩
    obtain ⟨y, y1, y2, y3, yg⟩ := put_list (T := T2) (xs := [((0 : Nat) : Int), (r : Int), (v : Int)]) (by simp) (by
      intro z hz
      have : z = ((0 : Nat) : Int) ∨ z = (r : Int) ∨ z = (v : Int) := by simpa using hz
      rcases this with rfl | rfl | rfl
      · exact inT_of (e02 _ _ t0)
      · exact inT_of r4
      · exact inT_of v3) (by omega)
    have yl := yg.len
    rw [y1, y2]
    generalize (put T2 ⟨9, 0, [((0 : Nat) : Int), (r : Int), (v : Int)]⟩).1 = T3 at h10 y3 yg yl
    have e03 := e02.trans yg.ext
    have r5 := yg.ext _ _ r4
    have v5 := yg.ext _ _ v3
    have hI3 := hI.mono e03
    have h10 : At W w10 [arT p T3, regA st rs, ownA sf F] := h10
    have hv0 : v ≠ 0 := by
      rintro rfl
      have := some_two v5 (e03 _ _ t0)
      simp at this
    -- it is done
    have fin : ∀ (w' : World) (T4 : List Tm) (F4 : List Int) (x : Nat) (rs4 : List Rg), Ext T3 T4 → T4.length ≤ T.length + 4 → OnceI T4 F4 rs4 → rs4.length ≤ rs.length + 1 → rs4.take rs.length = rs → rs.length ≤ rs4.length → inT T4 (x : Int) → (∀ (hok : TOk T4), doT T4 rs [(x : Int)] = (rs4, [if F4[k]?.getD 0 = 0 then 2 else F4[k]?.getD 0])) → At W w' [arT p T4, regA st rs, ownA sf F4] →
        trystlaw24_MixOnce.c5 RR (fun asks1' a5' put6' get8' none10' first13' st12' i14' w' => (asks1' = s ∧ a5' = some p ∧ put6' = 0 ∧ get8' = 1 ∧ none10' = 2 ∧ first13' = sf ∧ ∃ (i : Nat) (rs : List Rg) (F : List Int) (T : List Tm), i14' = i ∧ i ≤ xs.length ∧ rs.length ≤ i ∧ T.length ≤ 3 + 4 * i ∧ T[0]? = some ⟨2, 71, []⟩ ∧ T[1]? = some ⟨2, 72, []⟩ ∧ T[2]? = some ⟨2, 0, []⟩ ∧ OnceI T F rs ∧ At W w' [regA st12' rs, ownA sf F, arT p T]) ∧ xs.length - i14'.toNat < xs.length - ((i : Nat) : Int).toNat) s (some p) 0 1 2 st sf (i : Int) (k : Int) 0 0 (x : Int) 0 w' := by
      intro w' T4 F4 x rs4 e34 hl4 hI4 hrl4 htake hge4 hx4 hdo h'
      unfold trystlaw24_MixOnce.c5
      refine cond_n (fun h => absurd rfl h) fun _ => cond_n (fun h => absurd rfl h) fun _ => cond_n (fun h => absurd rfl h) fun _ => ?_
      unfold trystlaw24_MixOnce.c4
      have hok : TOk T4 := h'.ok
      intro w11
      have h11 : At W w11 (ownA ⟨some (newA w'), 1, 1⟩ [(x : Int)] :: arT p T4 :: [regA st rs, ownA sf F4]) := h'.row [(x : Int)] (by simp)
      have he0 : doErr T4 rs [(x : Int)] = 0 := by
        have hin : ∀ g ∈ rs, inT T4 g.1 ∧ inT T4 g.2 := fun g hg => by
          obtain ⟨k', z, a1, a2, a3, a4, a5, a6⟩ := (hI3.mono e34).ids g hg
          exact ⟨by rw [a2]; exact inT_of a3, a6⟩
        unfold doErr
        rw [if_neg (fun h => h ⟨hin, by simpa using hx4⟩), if_neg (by simp)]
      refine (do_at h11.swap (s1 := st) (rs := rs) (s2 := ⟨some (newA w'), 1, 1⟩) (l := [(x : Int)]) (by omega) (by simp) (by omega) (fun L w'' hs => At.regs 1 rfl hs.dropL) (rowsI 0 rfl (by simp))).mono ?_
      rintro _ w12 ⟨u1, u2, rfl, hgood, _⟩
      have h12 := hgood he0
      have t24 : T4[2]? = some ⟨2, 0, []⟩ := e34 _ _ (e03 _ _ t2)
      rw [hdo hok, word_there hok t24] at h12
      rw [he0]
      have h12 : At W w12 [regA u1 rs4, ownA u2 [if F4[k]?.getD 0 = 0 then 2 else F4[k]?.getD 0], arT p T4, ownA ⟨some (newA w'), 1, 1⟩ [(x : Int)], regA st rs, ownA sf F4] := h12
      have hu2 : u2.len = 1 := h12.numLen 1 rfl
      have hu1 : u1.len = rs4.length := (h12.regs 0 rfl).len
      have hst : st.len = rs.length := (h12.regs 4 rfl).len
      have hF4l := hI4.len
      obtain ⟨qf, hqf, hcf⟩ := h12.num 5 rfl (i := k) (by omega)
      have eF : F4[k]'(by omega) = F4[k]?.getD 0 := by rw [List.getElem?_eq_getElem (by omega)]; rfl
      rw [eF] at hcf
      refine ⟨_, _, _, _, _, _, _, rfl, by omega, by rw [hsfl]; omega, qf, hqf, _, by rw [Int.toNat_natCast]; exact hcf, ?_⟩
      have c3 : ∀ want, want = (if F4[k]?.getD 0 = 0 then 2 else F4[k]?.getD 0) → trystlaw24_MixOnce.c3 RR (fun asks1' a5' put6' get8' none10' first13' st12' i14' w' => (asks1' = s ∧ a5' = some p ∧ put6' = 0 ∧ get8' = 1 ∧ none10' = 2 ∧ first13' = sf ∧ ∃ (i : Nat) (rs : List Rg) (F : List Int) (T : List Tm), i14' = i ∧ i ≤ xs.length ∧ rs.length ≤ i ∧ T.length ≤ 3 + 4 * i ∧ T[0]? = some ⟨2, 71, []⟩ ∧ T[1]? = some ⟨2, 72, []⟩ ∧ T[2]? = some ⟨2, 0, []⟩ ∧ OnceI T F rs ∧ At W w' [regA st12' rs, ownA sf F, arT p T]) ∧ xs.length - i14'.toNat < xs.length - ((i : Nat) : Int).toNat) s (some p) 0 1 2 st sf (i : Int) 0 u1 u2 want w12 := by
        rintro _ rfl
        unfold trystlaw24_MixOnce.c3
        obtain ⟨qo, hqo, hco⟩ := h12.num 1 rfl (i := 0) (by simp)
        have hcap := cap_ge 0 rfl h12
        refine cond_n (fun h => absurd rfl h) fun _ => cond_n (fun h => absurd (by rw [hu2]; rfl) h) fun _ => ⟨by omega, by omega, qo, hqo, _, hco, cond_n (fun h => absurd rfl h) fun _ => cond_d (fun h => by omega) fun _ => ⟨by omega, by omega, by omega, by omega, ?_⟩⟩
        have hsub := (h12.regs 0 rfl).take (n := rs.length) hge4 (if u1.cap = 0 then u1.a else u1.a.map (·.add (0 * 2))) (u1.cap - 0) (by
          split
          · rfl
          · cases u1.a with
            | none => rfl
            | some q => show some (q.add 0) = some q; rw [add_zero])
        rw [htake] at hsub
        rw [← hst] at hsub
        refine (regs_spec (s := ⟨if u1.cap = 0 then u1.a else u1.a.map (·.add (0 * 2)), st.len, u1.cap - 0⟩) hsub (h12.regs 4 rfl) (by omega)).mono ?_
        rintro _ w13 ⟨rfl, hs13⟩
        have h13 := h12.same hs13
        refine ⟨_, rfl, cond_f' (by simp) ?_⟩
        dsimp only
        rw [inc (by omega)]
        have h14 : At W w13 [regA u1 rs4, ownA sf F4, arT p T4] := by
          have k1 := (h13.front 1 rfl).drop
          have k1 : At W w13 [regA u1 rs4, arT p T4, ownA ⟨some (newA w'), 1, 1⟩ [(x : Int)], regA st rs, ownA sf F4] := k1
          have k2 := (k1.front 2 rfl).drop
          have k2 : At W w13 [regA u1 rs4, arT p T4, regA st rs, ownA sf F4] := k2
          have k3 := (k2.front 2 rfl).drop
          have k3 : At W w13 [regA u1 rs4, arT p T4, ownA sf F4] := k3
          exact k3.perm (List.Perm.cons _ (List.Perm.swap _ _ _))
        exact ⟨⟨rfl, rfl, rfl, rfl, rfl, rfl, i + 1, rs4, F4, T4, rfl, by omega, by omega, by omega, e34 _ _ (e03 _ _ t0), e34 _ _ (e03 _ _ t1), t24, hI4, h14⟩, by (try dsimp only); omega⟩
      exact cond_e (fun hz => c3 _ (by rw [if_pos hz])) fun hz => c3 _ (by rw [if_neg hz])
    obtain ⟨q, hq, _, c2⟩ := cellsX h10
    refine ⟨_, _, rfl, by omega, hlt, q, hq, by omega, by decide, _, c2, by decide, cond_e (fun hget => ?_) fun hput => ?_⟩
    · refine (mk 9 0 [((1 : Nat) : Int), (r : Int)] h10 (by omega) (by simp)).mono ?_
      rintro _ w12 ⟨rfl, h12⟩
      obtain ⟨z, z1, z2, z3, zg⟩ := put_list (T := T3) (xs := [((1 : Nat) : Int), (r : Int)]) (by simp) (by
        intro z hz
        have : z = ((1 : Nat) : Int) ∨ z = (r : Int) := by simpa using hz
        rcases this with rfl | rfl
        · exact inT_of (e03 _ _ t1)
        · exact inT_of r5) (by omega)
      have zl := zg.len
      rw [z1, z2]
      generalize (put T3 ⟨9, 0, [((1 : Nat) : Int), (r : Int)]⟩).1 = T4 at h12 z3 zg zl
      refine ⟨_, _, rfl, fin w12 T4 F z rs zg.ext (by omega) (hI3.mono zg.ext) (by omega) (List.take_length) (Nat.le_refl _) (inT_of z3) (fun hok => ?_) h12⟩
      rw [do_one hok (zg.ext _ _ (e03 _ _ t2)), rqOf_list z3 (zg.ext _ _ (e03 _ _ t1)) (by simp)]
      have : rqWord 72 [(r : Int)] = (72, [(r : Int)]) := rfl
      rw [this, ans_get, ((hI3.mono zg.ext).val hok hk (zg.ext _ _ r5)).2 2]
    · have h11 : TOk T3 := h10.ok
      obtain ⟨p1, p2, p3⟩ := hI3.put h11 hk r5 hv0 (inT_of v5)
      obtain ⟨qf, hqf, hcf⟩ := h10.num 2 rfl (i := k) (by omega)
      have eF : F[k]'(by omega) = F[k]?.getD 0 := by rw [List.getElem?_eq_getElem (by omega)]; rfl
      rw [eF] at hcf
      have hdo : ∀ F4, F4 = (if F[k]?.getD 0 = 0 then F.set k v else F) → ∀ (hok : TOk T3), doT T3 rs [(y : Int)] = ((if hasId rs r then rs else rs ++ [((r : Int), (v : Int))]), [if F4[k]?.getD 0 = 0 then 2 else F4[k]?.getD 0]) := by
        rintro F4 rfl hok
        rw [do_one hok (e03 _ _ t2), rqOf_list y3 (e03 _ _ t0) (by simp)]
        have : rqWord 71 [(r : Int), (v : Int)] = (71, [(r : Int), (v : Int)]) := rfl
        rw [this, ans_put, p2, if_neg p3]
      have hlen4 : (if hasId rs r then rs else rs ++ [((r : Int), (v : Int))]).length ≤ rs.length + 1 ∧ (if hasId rs r then rs else rs ++ [((r : Int), (v : Int))]).take rs.length = rs ∧ rs.length ≤ (if hasId rs r then rs else rs ++ [((r : Int), (v : Int))]).length := by
        split
        · exact ⟨by omega, List.take_length, Nat.le_refl _⟩
        · exact ⟨by simp, by simp, by simp⟩
      refine ⟨by omega, by rw [hsfl]; omega, qf, hqf, _, by rw [Int.toNat_natCast]; exact hcf, cond_e (fun hz => ?_) fun hz => ?_⟩
      · obtain ⟨g1, g2⟩ := h10.s.rowSet 2 (e := 3) (size := 1) (n := F.length) (vs := F.map (Value.int .i64)) rfl hqf (j := k) (by simp; omega) (.int .i64 (v : Int))
        refine ⟨by omega, by rw [hsfl]; omega, qf, hqf, by rw [Int.toNat_natCast]; exact h10.s.rowWr 2 (e := 3) (size := 1) (n := F.length) (vs := F.map (Value.int .i64)) rfl hqf (j := k) (by simp; omega), ?_⟩
        obtain ⟨w11, hw11⟩ : ∃ w11, w11 = w10.setCell (qf.add ((k : Nat) : Int).toNat) (.int .i64 (v : Int)) := ⟨_, rfl⟩
        rw [← hw11]
        have h11 : At W w11 [arT p T3, regA st rs, ownA sf (F.set k (v : Int))] := by
          rw [hw11, Int.toNat_natCast]
          refine h10.go ?_ g2
          unfold ownA
          rw [List.map_set, List.length_set]
          exact g1
        rw [if_pos hz] at p1 hdo
        exact fin w11 T3 (F.set k v) y _ (Ext.refl _) (by omega) p1 hlen4.1 hlen4.2.1 hlen4.2.2 (inT_of y3) (hdo _ rfl) h11
      · rw [if_neg hz] at p1 hdo
        exact fin w10 T3 F y _ (Ext.refl _) (by omega) p1 hlen4.1 hlen4.2.1 hlen4.2.2 (inT_of y3) (hdo _ rfl) h10
  · unfold trystlaw24_MixOnce.c1
    refine (wakes24 h6).mono ?_
    rintro _ w7 ⟨rfl, h7⟩
    refine ⟨_, rfl, ?_⟩
    rw [← hRR]
    exact ⟨rfl, h7.b⟩

end Go.Proofs.YtoclhecldmahiaaDoor
