/-
  The same terms of two arenas: what is put, opened, unboxed of them is the same. A pair of arenas, whatever its place.
-/
import Derived.Test.YtoclhecldmahiaaDoorOnA
set_option linter.unusedVariables false
set_option linter.unusedVariables false
set_option linter.unusedSimpArgs false
namespace Go.Proofs.YtoclhecldmahiaaDoor
open Go.Lf Go.RowKit

/-- the same term in two arenas -/
def Ev (A B : List Tm) (k x : Int) : Prop := 0 ≤ k ∧ 0 ≤ x ∧ Eqv A B k.toNat x.toNat
theorem Ev.mono {A B A' B' : List Tm} (hA : Ext A A') (hB : Ext B B') {k x : Int} (h : Ev A B k x) : Ev A' B' k x := ⟨h.1, h.2.1, h.2.2.mono hA hB⟩
theorem Ev.inA {A B : List Tm} {k x : Int} (h : Ev A B k x) : inT A k := by have := h.2.2.lt.1; have := h.1; unfold inT; omega
theorem Ev.inB {A B : List Tm} {k x : Int} (h : Ev A B k x) : inT B x := by have := h.2.2.lt.2; have := h.2.1; unfold inT; omega
theorem Ev.rel {A B : List Tm} {k x : Int} (h : Ev A B k x) : Rel A B k x := ⟨fun _ => ⟨h.1, h.2.2⟩, fun hn => absurd h.inB hn⟩
theorem _root_.Go.Lf.Rel.ev {A B : List Tm} {k x : Int} (h : Rel A B k x) (hx : inT B x) : Ev A B k x := ⟨(h.1 hx).1, by unfold inT at hx; omega, (h.1 hx).2⟩
theorem Ev.left {A B : List Tm} (hA : TOk A) {k k' x : Int} (h : Ev A B k x) (h' : Ev A B k' x) : k = k' := by
  have := h.2.2.left hA h'.2.2
  have := h.1
  have := h'.1
  omega
theorem Ev.right {A B : List Tm} (hB : TOk B) {k x x' : Int} (h : Ev A B k x) (h' : Ev A B k x') : x = x' := by
  have := h.2.2.right hB h'.2.2
  have := h.2.1
  have := h'.2.1
  omega
/-- what stands there -/
theorem Ev.tm {A B : List Tm} {k x : Int} (h : Ev A B k x) : (tmAt A k).kind = (tmAt B x).kind ∧ (tmAt A k).n = (tmAt B x).n ∧ (tmAt A k).args.length = (tmAt B x).args.length := by
  obtain ⟨h1, h2, h3⟩ := h
  cases h3 with
  | mk hi hj hk hn hl h =>
    unfold tmAt
    rw [hi, hj]
    exact ⟨hk, hn, hl⟩
def EvL (A B : List Tm) (ks xs : List Int) : Prop := ks.length = xs.length ∧ ∀ (q : Nat) (k x : Int), ks[q]? = some k → xs[q]? = some x → Ev A B k x
theorem EvL.mono {A B A' B' : List Tm} (hA : Ext A A') (hB : Ext B B') {ks xs : List Int} (h : EvL A B ks xs) : EvL A' B' ks xs := ⟨h.1, fun q k x hk hx => (h.2 q k x hk hx).mono hA hB⟩
theorem EvL.nil (A B : List Tm) : EvL A B [] [] := ⟨rfl, by simp⟩
theorem EvL.cons {A B : List Tm} {k x : Int} {ks xs : List Int} (h : Ev A B k x) (hl : EvL A B ks xs) : EvL A B (k :: ks) (x :: xs) := by
  refine ⟨by simp [hl.1], fun q k' x' hk hx => ?_⟩
  match q with
  | 0 => simp at hk hx; subst hk hx; exact h
  | q + 1 => simp at hk hx; exact hl.2 q k' x' hk hx
theorem EvL.app {A B : List Tm} {k x : Int} {ks xs : List Int} (hl : EvL A B ks xs) (h : Ev A B k x) : EvL A B (ks ++ [k]) (xs ++ [x]) := by
  refine ⟨by simp [hl.1], fun q k' x' hk hx => ?_⟩
  have hl1 := hl.1
  rw [List.getElem?_append] at hk hx
  split at hk
  · rw [if_pos (by omega)] at hx
    exact hl.2 q k' x' hk hx
  · rw [if_neg (by omega)] at hx
    have := (List.getElem?_eq_some_iff.1 hk).1
    simp at this
    have e : q = ks.length := by omega
    subst e
    rw [Nat.sub_self] at hk
    rw [hl1, Nat.sub_self] at hx
    simp at hk hx
    subst hk hx
    exact h
theorem EvL.at_ {A B : List Tm} {ks xs : List Int} (h : EvL A B ks xs) {i : Nat} (hi : i < xs.length) : Ev A B (ks[i]?.getD 0) (xs[i]?.getD 0) := by
  have := h.1
  rw [List.getElem?_eq_getElem hi, List.getElem?_eq_getElem (by omega : i < ks.length)]
  exact h.2 i _ _ (List.getElem?_eq_getElem _) (List.getElem?_eq_getElem _)
theorem EvL.inA {A B : List Tm} {ks xs : List Int} (h : EvL A B ks xs) : ∀ k ∈ ks, inT A k := by
  intro k hk
  obtain ⟨q, hq⟩ := List.getElem?_of_mem hk
  have hl := (List.getElem?_eq_some_iff.1 hq).1
  have h1 := h.1
  exact (h.2 q k _ hq (List.getElem?_eq_getElem (by omega))).inA
theorem EvL.inB {A B : List Tm} {ks xs : List Int} (h : EvL A B ks xs) : ∀ x ∈ xs, inT B x := by
  intro k hk
  obtain ⟨q, hq⟩ := List.getElem?_of_mem hk
  have hl := (List.getElem?_eq_some_iff.1 hq).1
  have h1 := h.1
  exact (h.2 q _ k (List.getElem?_eq_getElem (by omega)) hq).inB
theorem EvL.rel {A B : List Tm} {ks xs : List Int} (h : EvL A B ks xs) : RelL A B ks xs := ⟨h.1, fun q k x hk hx => (h.2 q k x hk hx).rel⟩
theorem RelL.ev {A B : List Tm} {ks xs : List Int} (h : RelL A B ks xs) (hx : ∀ x ∈ xs, inT B x) : EvL A B ks xs := ⟨h.1, fun q k x hk hx' => (h.2 q k x hk hx').ev (hx x (List.mem_of_getElem? hx'))⟩
theorem EvL.left {A B : List Tm} (hA : TOk A) {ks ks' xs : List Int} (h : EvL A B ks xs) (h' : EvL A B ks' xs) : ks = ks' := by
  have h1 := h.1
  have h2 := h'.1
  refine args_eq (by omega) fun q k k' hk hk' => ?_
  have hl := (List.getElem?_eq_some_iff.1 hk).1
  exact (h.2 q k _ hk (List.getElem?_eq_getElem (by omega))).left hA (h'.2 q k' _ hk' (List.getElem?_eq_getElem (by omega)))
theorem RelL.left {A B : List Tm} (hA : TOk A) {ks ks' xs : List Int} (h : RelL A B ks xs) (h' : RelL A B ks' xs) : ks = ks' := by
  have h1 := h.1
  have h2 := h'.1
  refine args_eq (by omega) fun q k k' hk hk' => ?_
  have hl := (List.getElem?_eq_some_iff.1 hk).1
  exact (h.2 q k _ hk (List.getElem?_eq_getElem (by omega))).eq hA (h'.2 q k' _ hk' (List.getElem?_eq_getElem (by omega)))

/-- its arguments -/
theorem Ev.args {A B : List Tm} (hA : TOk A) (hB : TOk B) {k x : Int} (h : Ev A B k x) : EvL A B (tmAt A k).args (tmAt B x).args := by
  obtain ⟨h1, h2, h3⟩ := h
  cases h3 with
  | mk hi hj hk hn hl h =>
    rename_i t u
    have et : tmAt A k = t := by unfold tmAt; rw [hi]; rfl
    have eu : tmAt B x = u := by unfold tmAt; rw [hj]; rfl
    rw [et, eu]
    exact ⟨hl, fun q y z hy hz => ⟨(hA.argsAt hi y (List.mem_of_getElem? hy)).1, (hB.argsAt hj z (List.mem_of_getElem? hz)).1, h q y z hy hz⟩⟩

theorem Ev.put {A B : List Tm} {k n : Int} {xs ys : List Int} (h : EvL A B xs ys) (hB : errOf B ⟨k, n, ys⟩ = 0) (hsA : A.length ≤ 1000000) (hsB : B.length ≤ 1000000) :
    (put A ⟨k, n, xs⟩).2.2 = 0 ∧ (put B ⟨k, n, ys⟩).2.2 = 0 ∧ Ev (put A ⟨k, n, xs⟩).1 (put B ⟨k, n, ys⟩).1 (put A ⟨k, n, xs⟩).2.1 (put B ⟨k, n, ys⟩).2.1 := by
  have hl := h.1
  have hA : errOf A ⟨k, n, xs⟩ = 0 := by
    obtain ⟨k1, k2, k3, k4, k5, k6, k7⟩ := errZ hB
    refine errOk ⟨k1, k2⟩ k6 ?_ (by rw [show (⟨k, n, xs⟩ : Tm).args.length = ys.length from hl]; exact k3) (by rw [show (⟨k, n, xs⟩ : Tm).args.length = ys.length from hl]; exact k4) h.inA
    rcases Int.lt_or_le 0 n with hp | hp
    · exact .inl (k7 hp)
    · exact .inr (by show n = 0; have : 0 ≤ n := k6; omega)
  obtain ⟨i, j, h1, h2, h3, h4, h5⟩ := Eqv.put (t := ⟨k, n, xs⟩) (u := ⟨k, n, ys⟩) rfl rfl hl (fun q x y hx hy => (h.2 q x y hx hy).2.2) hA hB (by omega) (by omega)
  refine ⟨h2, h4, ?_⟩
  rw [h1, h3]
  exact ⟨by omega, by omega, by rw [Int.toNat_natCast, Int.toNat_natCast]; exact h5⟩

/-! onions -/

theorem Ev.argZ {A B : List Tm} (hA : TOk A) (hB : TOk B) {k x : Int} (h : Ev A B k x) (hl : 1 ≤ (tmAt B x).args.length) : Ev A B (arg0 (tmAt A k)) (arg0 (tmAt B x)) := by
  have ha := h.args hA hB
  have h1 := ha.1
  have := ha.at_ (i := 0) (by omega)
  have e : ∀ t : Tm, arg0 t = t.args[0]?.getD 0 := fun t => rfl
  rw [e, e]
  exact this

theorem leastLen {T : List Tm} (hT : TOk T) {x : Int} (hx : inT T x) : least (tmAt T x).kind ≤ (tmAt T x).args.length := by
  have hlt : x.toNat < T.length := by unfold inT at hx; omega
  have e : T[x.toNat]? = some (tmAt T x) := by unfold tmAt; rw [List.getElem?_eq_getElem hlt]; rfl
  exact (errZ (hT.good _ _ e)).2.2.1

theorem EvL.drop {A B : List Tm} {ks xs : List Int} (h : EvL A B ks xs) (m : Nat) : EvL A B (ks.drop m) (xs.drop m) := by
  refine ⟨by rw [List.length_drop, List.length_drop, h.1], fun q k x hk hx => ?_⟩
  rw [List.getElem?_drop] at hk hx
  exact h.2 _ k x hk hx

theorem unbox_rel {A B : List Tm} (hA : TOk A) (hB : TOk B) {i k j l : Int} (h : Rel A B i j) (hk : Rel A B k l) : (unboxT A i k).2 = (unboxT B j l).2 ∧ EvL A B (unboxT A i k).1 (unboxT B j l).1 := by
  unfold unboxT
  by_cases h1 : inT B j ∧ inT B l
  · rw [if_neg (show ¬ ¬ (inT A i ∧ inT A k) from fun hn => hn ⟨h.inT.2 h1.1, hk.inT.2 h1.2⟩), if_neg (show ¬ ¬ (inT B j ∧ inT B l) from fun hn => hn h1)]
    have e := h.ev h1.1
    have ek := hk.ev h1.2
    rw [e.tm.1]
    by_cases h2 : (tmAt B j).kind ≠ 7
    · rw [if_pos h2, if_pos h2]; exact ⟨rfl, EvL.nil _ _⟩
    · rw [if_neg h2, if_neg h2]
      have h7 : (tmAt B j).kind = 7 := Classical.not_not.1 h2
      have ll := leastLen hB h1.1
      rw [h7] at ll
      have e0 := e.argZ hA hB (by simp [least] at ll; omega)
      rw [e0.tm.1]
      by_cases h3 : (tmAt B (arg0 (tmAt B j))).kind ≠ 5
      · rw [if_pos h3, if_pos h3]; exact ⟨rfl, EvL.nil _ _⟩
      · rw [if_neg h3, if_neg h3]
        have h5 : (tmAt B (arg0 (tmAt B j))).kind = 5 := Classical.not_not.1 h3
        have l2 := leastLen hB e0.inB
        rw [h5] at l2
        have e1 := e0.argZ hA hB (by simp [least] at l2; omega)
        have hiff : arg0 (tmAt A (arg0 (tmAt A i))) ≠ k ↔ arg0 (tmAt B (arg0 (tmAt B j))) ≠ l := by
          constructor
          · intro hn e; exact hn (by rw [← e] at ek; exact e1.left hA ek)
          · intro hn e; exact hn (by rw [← e] at ek; exact e1.right hB ek)
        by_cases h4 : arg0 (tmAt B (arg0 (tmAt B j))) ≠ l
        · rw [if_pos (hiff.2 h4), if_pos h4]; exact ⟨rfl, EvL.nil _ _⟩
        · rw [if_neg (fun h => h4 (hiff.1 h)), if_neg h4]; exact ⟨rfl, (e.args hA hB).drop 2⟩
  · rw [if_pos (show ¬ (inT A i ∧ inT A k) from fun hn => h1 ⟨h.inT.1 hn.1, hk.inT.1 hn.2⟩), if_pos h1]; exact ⟨rfl, EvL.nil _ _⟩

theorem peel_rel {A B : List Tm} (hA : TOk A) (hB : TOk B) {s o t p : Int} (hs : Rel A B s t) (ho : Rel A B o p) :
    (peelT A s o).2.2 = (peelT B t p).2.2 ∧ ((peelT B t p).2.2 ≠ 0 → peelT A s o = (0, 0, (peelT B t p).2.2)) ∧ ((peelT B t p).2.2 = 0 → Ev A B (peelT A s o).1 (peelT B t p).1 ∧ Ev A B (peelT A s o).2.1 (peelT B t p).2.1) := by
  obtain ⟨h1, h2⟩ := unbox_rel hA hB ho hs
  have hl := h2.1
  unfold peelT
  rw [h1, hl]
  by_cases e1 : (unboxT B p t).2 ≠ 0
  · rw [if_pos e1, if_pos e1]; exact ⟨rfl, fun _ => rfl, fun h => absurd h e1⟩
  · rw [if_neg e1, if_neg e1]
    by_cases e2 : (unboxT B p t).1.length ≠ 2
    · rw [if_pos e2, if_pos e2]; exact ⟨rfl, fun _ => rfl, fun h => absurd h (by decide)⟩
    · rw [if_neg e2, if_neg e2]
      refine ⟨rfl, fun h => absurd rfl h, fun _ => ⟨h2.at_ (by omega), h2.at_ (by omega)⟩⟩

/-! a pair -/

def PairAt (W w : World) (pp a b : Addr) (A B : List Tm) (n : Nat) (R : List Asn) : Prop :=
  ∃ M, At W w (prA pp a b M :: arT a A :: pgT b B :: R) ∧ PairOk A B M ∧ Nb B ∧ A.length + (B.length - M.length) ≤ n ∧ B.length ≤ n

section
variable {W w w' : World} {R R' : List Asn} {pp a b : Addr} {A B A' B' : List Tm} {n : Nat}

theorem PairAt.base (h : PairAt W w pp a b A B n R) : Below W.heap.size W w := by obtain ⟨M, h, _⟩ := h; exact h.b
theorem PairAt.cells (h : PairAt W w pp a b A B n R) : w.cell? pp = some (.pointer (some a)) ∧ w.cell? (pp.add 1) = some (.pointer (some b)) := by
  obtain ⟨M, h, _⟩ := h
  exact prCells h.s
theorem PairAt.ok (h : PairAt W w pp a b A B n R) : TOk A ∧ TOk B := by
  obtain ⟨M, h, _⟩ := h
  exact ⟨(h.front 1 rfl).ok, (h.front 2 rfl).pok⟩
theorem PairAt.lens (h : PairAt W w pp a b A B n R) : A.length ≤ n ∧ B.length ≤ n := by
  obtain ⟨M, _, _, _, h1, h2⟩ := h
  omega
theorem PairAt.nb (h : PairAt W w pp a b A B n R) : Nb B := by obtain ⟨M, _, _, h, _⟩ := h; exact h
theorem PairAt.more (h : PairAt W w pp a b A B n R) {m : Nat} (hm : n ≤ m) : PairAt W w pp a b A B m R := by
  obtain ⟨M, h1, h2, h3, h4, h5⟩ := h
  exact ⟨M, h1, h2, h3, by omega, by omega⟩
theorem PairAt.drew (h : PairAt W w pp a b A B n R) : PairAt W w.drew pp a b A B n R := by
  obtain ⟨M, h1, h2⟩ := h
  exact ⟨M, h1.drew, h2⟩
theorem PairAt.same (h : PairAt W w pp a b A B n R) (hs : Same w w') : PairAt W w' pp a b A B n R := by
  obtain ⟨M, h1, h2⟩ := h
  exact ⟨M, h1.same hs, h2⟩
theorem PairAt.rest (h : PairAt W w pp a b A B n R) : At W w R := by
  obtain ⟨M, h1, h2⟩ := h
  exact h1.drop.drop.drop
theorem PairAt.onR (h : PairAt W w pp a b A B n R) (f : ∀ M, At W w (prA pp a b M :: arT a A :: pgT b B :: R) → At W w' (prA pp a b M :: arT a A :: pgT b B :: R')) : PairAt W w' pp a b A B n R' := by
  obtain ⟨M, h1, h2⟩ := h
  exact ⟨M, f M h1, h2⟩
theorem PairAt.perm (h : PairAt W w pp a b A B n R) (hp : R.Perm R') : PairAt W w pp a b A B n R' := h.onR fun M h1 => h1.perm (((hp.cons _).cons _).cons _)
/-- to the page's -/
theorem PairAt.toB (h : PairAt W w pp a b A B n R) : ∃ M, At W w (pgT b B :: prA pp a b M :: arT a A :: R) ∧ PairOk A B M ∧ Nb B ∧ A.length + (B.length - M.length) ≤ n ∧ B.length ≤ n := by
  obtain ⟨M, h1, h2⟩ := h
  exact ⟨M, h1.front 2 rfl, h2⟩
theorem PairAt.ofB {M : List Nat} {i : Nat} (h : At W w' (pgT b B' :: prA pp a b M :: arT a A :: R')) (hp : PairOk A B M) (he : Ext B B') (hl : B'.length ≤ B.length + i) (hnb : Nb B') (h2 : A.length + (B.length - M.length) ≤ n) (h3 : B.length ≤ n) : PairAt W w' pp a b A B' (n + i) R' := by
  have := hp.len
  exact ⟨M, (h.front 2 rfl).front 2 rfl, hp.mono (Ext.refl _) he, hnb, by omega, by omega⟩

theorem pT_at (h : PairAt W w pp a b A B n R) (hn : n ≤ 900000) (i : Int) :
    CallsV Tryd.prog n_trystlaw10_Pair_T #[.pointer (some pp), .int .i64 i] w fun v w' => ∃ (k : Int) (A' : List Tm), v = .int .i64 k ∧ PairAt W w' pp a b A' B n R ∧ Ext A A' ∧ Rel A' B k i := by
  obtain ⟨M, h1, hp, hnb, h2, h3⟩ := h
  refine (pairT (R := R) h1 hp hnb (by omega) i).mono ?_
  rintro _ w' ⟨k, A', M', rfl, h4, hto, hr⟩
  have := hto.few
  exact ⟨k, A', rfl, ⟨M', h4, hto.ok, hnb, by omega, h3⟩, hto.ext, hr⟩

theorem pTs_at (h : PairAt W w pp a b A B n R) (hn : n ≤ 900000) {s : Sl} {xs : List Int} (hl : xs.length ≤ 1000000) (hI : ∀ L w', At W w' (L ++ R) → Ints .i64 w' s xs) :
    CallsV Tryd.prog n_trystlaw10_Pair_Ts #[.pointer (some pp), .slice s.a s.len s.cap] w fun v w' => ∃ (s' : Sl) (ks : List Int) (A' : List Tm), v = .slice s'.a s'.len s'.cap ∧ PairAt W w' pp a b A' B n (ownA s' ks :: R) ∧ Ext A A' ∧ RelL A' B ks xs := by
  obtain ⟨M, h1, hp, hnb, h2, h3⟩ := h
  refine (pairTs (R := R) h1 hp hnb (by omega) hl hI).mono ?_
  rintro _ w' ⟨s', ks, A', M', rfl, h4, hto, hr⟩
  have := hto.few
  exact ⟨s', ks, A', rfl, ⟨M', h4, hto.ok, hnb, by omega, h3⟩, hto.ext, hr⟩

end

end Go.Proofs.YtoclhecldmahiaaDoor
