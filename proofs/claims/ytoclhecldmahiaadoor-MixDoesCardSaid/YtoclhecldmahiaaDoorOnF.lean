/-
  The same terms of two arenas: what is put, opened, unboxed of them is the same. A pair of arenas, whatever its place.
-/
import Derived.Test.YtoclhecldmahiaaDoorOnA
set_option linter.unusedVariables false
set_option linter.unusedVariables false
set_option linter.unusedSimpArgs false
namespace Go.Proofs.YtoclhecldmahiaaDoor
open Go.Lf Go.RowKit

/-- the same term in two arenas -/
def Ev (A B : List Tm) (k x : Int) : Prop := 0 ≤ k ∧ 0 ≤ x ∧ Eqv A B k.toNat x.toNat
theorem Ev.mono {A B A' B' : List Tm} (hA : Ext A A') (hB : Ext B B') {k x : Int} (h : Ev A B k x) : Ev A' B' k x := ⟨h.1, h.2.1, h.2.2.mono hA hB⟩
theorem Ev.inA {A B : List Tm} {k x : Int} (h : Ev A B k x) : inT A k := by have := h.2.2.lt.1; have := h.1; unfold inT; omega
theorem Ev.inB {A B : List Tm} {k x : Int} (h : Ev A B k x) : inT B x := by have := h.2.2.lt.2; have := h.2.1; unfold inT; omega
theorem Ev.rel {A B : List Tm} {k x : Int} (h : Ev A B k x) : Rel A B k x := ⟨fun _ => ⟨h.1, h.2.2⟩, fun hn => absurd h.inB hn⟩
theorem _root_.Go.Lf.Rel.ev {A B : List Tm} {k x : Int} (h : Rel A B k x) (hx : inT B x) : Ev A B k x := ⟨(h.1 hx).1, by unfold inT at hx; omega, (h.1 hx).2⟩
theorem Ev.left {A B : List Tm} (hA : TOk A) {k k' x : Int} (h : Ev A B k x) (h' : Ev A B k' x) : k = k' := by
  have := h.2.2.left hA h'.2.2
  have := h.1
  have := h'.1
  omega
theorem Ev.right {A B : List Tm} (hB : TOk B) {k x x' : Int} (h : Ev A B k x) (h' : Ev A B k x') : x = x' := by
  have := h.2.2.right hB h'.2.2
  have := h.2.1
  have := h'.2.1
  omega
/-- what stands there -/
theorem Ev.tm {A B : List Tm} {k x : Int} (h : Ev A B k x) : (tmAt A k).kind = (tmAt B x).kind ∧ (tmAt A k).n = (tmAt B x).n ∧ (tmAt A k).args.length = (tmAt B x).args.length := by
  obtain ⟨h1, h2, h3⟩ := h
  cases h3 with
  | mk hi hj hk hn hl h =>
    unfold tmAt
    rw [hi, hj]
    exact ⟨hk, hn, hl⟩
def EvL (A B : List Tm) (ks xs : List Int) : Prop := ks.length = xs.length ∧ ∀ (q : Nat) (k x : Int), ks[q]? = some k → xs[q]? = some x → Ev A B k x
theorem EvL.mono {A B A' B' : List Tm} (hA : Ext A A') (hB : Ext B B') {ks xs : List Int} (h : EvL A B ks xs) : EvL A' B' ks xs := ⟨h.1, fun q k x hk hx => (h.2 q k x hk hx).mono hA hB⟩
theorem EvL.nil (A B : List Tm) : EvL A B [] [] := ⟨rfl, by simp⟩
theorem EvL.cons {A B : List Tm} {k x : Int} {ks xs : List Int} (h : Ev A B k x) (hl : EvL A B ks xs) : EvL A B (k :: ks) (x :: xs) := by
  refine ⟨by simp [hl.1], fun q k' x' hk hx => ?_⟩
  match q with
  | 0 => simp at hk hx; subst hk hx; exact h
  | q + 1 => simp at hk hx; exact hl.2 q k' x' hk hx
theorem EvL.app {A B : List Tm} {k x : Int} {ks xs : List Int} (hl : EvL A B ks xs) (h : Ev A B k x) : EvL A B (ks ++ [k]) (xs ++ [x]) := by
  refine ⟨by simp [hl.1], fun q k' x' hk hx => ?_⟩
  have hl1 := hl.1
  rw [List.getElem?_append] at hk hx
  split at hk
  · rw [if_pos (by omega)] at hx
    exact hl.2 q k' x' hk hx
  · rw [if_neg (by omega)] at hx
    have := (List.getElem?_eq_some_iff.1 hk).1
    simp at this
    have e : q = ks.length := by omega
    subst e
    rw [Nat.sub_self] at hk
    rw [hl1, Nat.sub_self] at hx
    simp at hk hx
    subst hk hx
    exact h
theorem EvL.at_ {A B : List Tm} {ks xs : List Int} (h : EvL A B ks xs) {i : Nat} (hi : i < xs.length) : Ev A B (ks[i]?.getD 0) (xs[i]?.getD 0) := by
  have := h.1
  rw [List.getElem?_eq_getElem hi, List.getElem?_eq_getElem (by omega : i < ks.length)]
  exact h.2 i _ _ (List.getElem?_eq_getElem _) (List.getElem?_eq_getElem _)
theorem EvL.inA {A B : List Tm} {ks xs : List Int} (h : EvL A B ks xs) : ∀ k ∈ ks, inT A k := by
  intro k hk
  obtain ⟨q, hq⟩ := List.getElem?_of_mem hk
  have hl := (List.getElem?_eq_some_iff.1 hq).1
  have h1 := h.1
  exact (h.2 q k _ hq (List.getElem?_eq_getElem (by omega))).inA
theorem EvL.inB {A B : List Tm} {ks xs : List Int} (h : EvL A B ks xs) : ∀ x ∈ xs, inT B x := by
  intro k hk
  obtain ⟨q, hq⟩ := List.getElem?_of_mem hk
  have hl := (List.getElem?_eq_some_iff.1 hq).1
  have h1 := h.1
  exact (h.2 q _ k (List.getElem?_eq_getElem (by omega)) hq).inB
theorem EvL.rel {A B : List Tm} {ks xs : List Int} (h : EvL A B ks xs) : RelL A B ks xs := ⟨h.1, fun q k x hk hx => (h.2 q k x hk hx).rel⟩
theorem RelL.ev {A B : List Tm} {ks xs : List Int} (h : RelL A B ks xs) (hx : ∀ x ∈ xs, inT B x) : EvL A B ks xs := ⟨h.1, fun q k x hk hx' => (h.2 q k x hk hx').ev (hx x (List.mem_of_getElem? hx'))⟩
theorem EvL.left {A B : List Tm} (hA : TOk A) {ks ks' xs : List Int} (h : EvL A B ks xs) (h' : EvL A B ks' xs) : ks = ks' := by
  have h1 := h.1
  have h2 := h'.1
  refine args_eq (by omega) fun q k k' hk hk' => ?_
  have hl := (List.getElem?_eq_some_iff.1 hk).1
  exact (h.2 q k _ hk (List.getElem?_eq_getElem (by omega))).left hA (h'.2 q k' _ hk' (List.getElem?_eq_getElem (by omega)))
theorem RelL.left {A B : List Tm} (hA : TOk A) {ks ks' xs : List Int} (h : RelL A B ks xs) (h' : RelL A B ks' xs) : ks = ks' := by
  have h1 := h.1
  have h2 := h'.1
  refine args_eq (by omega) fun q k k' hk hk' => ?_
  have hl := (List.getElem?_eq_some_iff.1 hk).1
  exact (h.2 q k _ hk (List.getElem?_eq_getElem (by omega))).eq hA (h'.2 q k' _ hk' (List.getElem?_eq_getElem (by omega)))

/-- its arguments -/
theorem Ev.args {A B : List Tm} (hA : TOk A) (hB : TOk B) {k x : Int} (h : Ev A B k x) : EvL A B (tmAt A k).args (tmAt B x).args := by
  obtain ⟨h1, h2, h3⟩ := h
  cases h3 with
  | mk hi hj hk hn hl h =>
    rename_i t u
    have et : tmAt A k = t := by unfold tmAt; rw [hi]; rfl
    have eu : tmAt B x = u := by unfold tmAt; rw [hj]; rfl
    rw [et, eu]
    exact ⟨hl, fun q y z hy hz => ⟨(hA.argsAt hi y (List.mem_of_getElem? hy)).1, (hB.argsAt hj z (List.mem_of_getElem? hz)).1, h q y z hy hz⟩⟩

theorem Ev.put {A B : List Tm} {k n : Int} {xs ys : List Int} (h : EvL A B xs ys) (hB : errOf B ⟨k, n, ys⟩ = 0) (hsA : A.length ≤ 1000000) (hsB : B.length ≤ 1000000) :
    (put A ⟨k, n, xs⟩).2.2 = 0 ∧ (put B ⟨k, n, ys⟩).2.2 = 0 ∧ Ev (put A ⟨k, n, xs⟩).1 (put B ⟨k, n, ys⟩).1 (put A ⟨k, n, xs⟩).2.1 (put B ⟨k, n, ys⟩).2.1 := by
  have hl := h.1
  have hA : errOf A ⟨k, n, xs⟩ = 0 := by
    obtain ⟨k1, k2, k3, k4, k5, k6, k7⟩ := errZ hB
    refine errOk ⟨k1, k2⟩ k6 ?_ (by rw [show (⟨k, n, xs⟩ : Tm).args.length = ys.length from hl]; exact k3) (by rw [show (⟨k, n, xs⟩ : Tm).args.length = ys.length from hl]; exact k4) h.inA
    rcases Int.lt_or_le 0 n with hp | hp
    · exact .inl (k7 hp)
    · exact .inr (by show n = 0; have : 0 ≤ n := k6; omega)
  obtain ⟨i, j, h1, h2, h3, h4, h5⟩ := Eqv.put (t := ⟨k, n, xs⟩) (u := ⟨k, n, ys⟩) rfl rfl hl (fun q x y hx hy => (h.2 q x y hx hy).2.2) hA hB (by omega) (by omega)
  refine ⟨h2, h4, ?_⟩
  rw [h1, h3]
  exact ⟨by omega, by omega, by rw [Int.toNat_natCast, Int.toNat_natCast]; exact h5⟩

/-! onions -/

theorem keyS_ev {A B : List Tm} {s x : Int} (h : Ev A B s x) (hsA : A.length ≤ 900000) (hsB : B.length ≤ 900000) : ∀ m, m ≤ 3 → EvL (keyS A s m).1 (keyS B x m).1 (keyS A s m).2 (keyS B x m).2 := by
  intro m
  induction m with
  | zero => exact fun _ => EvL.nil _ _
  | succ m ih =>
    intro hm
    obtain ⟨a1, _, _⟩ := keyS_good h.inA (by omega) m (by omega)
    obtain ⟨b1, _, _⟩ := keyS_good h.inB (by omega) m (by omega)
    have al := a1.len
    have bl := b1.len
    have hh := h.mono a1.ext b1.ext
    obtain ⟨_, _, e⟩ := Ev.put (k := 4) (n := ((50 + m : Nat) : Int)) ((EvL.nil _ _).cons hh) (err_kdf (b1.ext.inT h.inB) (by omega)) (by omega) (by omega)
    exact ((ih (by omega)).mono (Ext.put _ _) (Ext.put _ _)).app e

theorem layS_ev {A B : List Tm} {pa pb ka kb : List Int} {sa sb xa xb : Int} (hs : Ev A B sa sb) (hx : Ev A B xa xb) (hp : EvL A B pa pb) (hk : EvL A B ka kb) (hpl : pb.length = 3) (hkl : kb.length = 3) (hsA : A.length ≤ 900000) (hsB : B.length ≤ 900000) :
    ∀ m, m ≤ 3 → Ev (layS A pa ka sa xa m).1 (layS B pb kb sb xb m).1 (layS A pa ka sa xa m).2 (layS B pb kb sb xb m).2 := by
  intro m
  have p1 := hp.1
  have k1 := hk.1
  induction m with
  | zero => exact fun _ => hx
  | succ m ih =>
    intro hm
    obtain ⟨a1, a2, _⟩ := layS_good hs.inA hx.inA hp.inA hk.inA (by omega) (by omega) (by omega) m (by omega)
    obtain ⟨b1, b2, _⟩ := layS_good hs.inB hx.inB hp.inB hk.inB (by omega) (by omega) (by omega) m (by omega)
    have al := a1.len
    have bl := b1.len
    have ih := ih (by omega)
    obtain ⟨_, _, e⟩ := Ev.put (k := 4) (n := ((60 + (2 - m) : Nat) : Int)) ((EvL.nil _ _).cons (hs.mono a1.ext b1.ext)) (err_kdf (b1.ext.inT hs.inB) (by omega)) (by omega) (by omega)
    have e : Ev (withS (layS A pa ka sa xa m).1 sa m).1 (withS (layS B pb kb sb xb m).1 sb m).1 (withS (layS A pa ka sa xa m).1 sa m).2.1 (withS (layS B pb kb sb xb m).1 sb m).2.1 := e
    have ea : Ext (layS A pa ka sa xa m).1 (withS (layS A pa ka sa xa m).1 sa m).1 := Ext.put _ _
    have eb : Ext (layS B pb kb sb xb m).1 (withS (layS B pb kb sb xb m).1 sb m).1 := Ext.put _ _
    have la : (withS (layS A pa ka sa xa m).1 sa m).1.length ≤ (layS A pa ka sa xa m).1.length + 1 := (put_len1 _ _).1
    have lb : (withS (layS B pb kb sb xb m).1 sb m).1.length ≤ (layS B pb kb sb xb m).1.length + 1 := (put_len1 _ _).1
    have hp' := hp.mono (a1.ext.trans ea) (b1.ext.trans eb)
    have hk' := hk.mono (a1.ext.trans ea) (b1.ext.trans eb)
    have ih' := ih.mono ea eb
    have hargs := ((((EvL.nil _ _).cons (hk'.at_ (i := 2 - m) (by omega))).cons ih').cons e).cons (hp'.at_ (i := 2 - m) (by omega))
    obtain ⟨_, _, e2⟩ := Ev.put (k := 7) (n := 0) hargs (err_box (hp'.at_ (i := 2 - m) (by omega)).inB e.inB ih'.inB (hk'.at_ (i := 2 - m) (by omega)).inB) (by omega) (by omega)
    exact e2

theorem wrap_ev {A B : List Tm} {pa pb : List Int} {sa sb xa xb : Int} (hs : Ev A B sa sb) (hx : Ev A B xa xb) (hp : EvL A B pa pb) (hpl : pb.length = 3) (hsA : A.length ≤ 800000) (hsB : B.length ≤ 800000) :
    Ev (wrapT A pa sa xa).1 (wrapT B pb sb xb).1 (wrapT A pa sa xa).2.1 (wrapT B pb sb xb).2.1 ∧ EvL (wrapT A pa sa xa).1 (wrapT B pb sb xb).1 (wrapT A pa sa xa).2.2 (wrapT B pb sb xb).2.2 := by
  obtain ⟨a1, a2, _⟩ := keyS_good hs.inA (by omega) 3 (by omega)
  obtain ⟨b1, b2, _⟩ := keyS_good hs.inB (by omega) 3 (by omega)
  have ke := keyS_ev hs (by omega) (by omega) 3 (by omega)
  have al := a1.len
  have bl := b1.len
  have p1 := hp.1
  refine ⟨layS_ev (hs.mono a1.ext b1.ext) (hx.mono a1.ext b1.ext) (hp.mono a1.ext b1.ext) ke hpl b2 (by omega) (by omega) 3 (by omega), ?_⟩
  obtain ⟨c1, _, _⟩ := layS_good (pubs := pa) (x := xa) (a1.ext.inT hs.inA) (a1.ext.inT hx.inA) (fun y hy => a1.ext.inT (hp.inA y hy)) ke.inA (by omega) a2 (by omega) 3 (by omega)
  obtain ⟨d1, _, _⟩ := layS_good (pubs := pb) (x := xb) (b1.ext.inT hs.inB) (b1.ext.inT hx.inB) (fun y hy => b1.ext.inT (hp.inB y hy)) ke.inB (by omega) b2 (by omega) 3 (by omega)
  exact ke.mono c1.ext d1.ext

theorem wrapErr_rel {A B : List Tm} {pa pb : List Int} {sa sb xa xb : Int} (hs : Rel A B sa sb) (hx : Rel A B xa xb) (hp : RelL A B pa pb) : wrapErr A pa sa xa = wrapErr B pb sb xb := by
  unfold wrapErr
  rw [hp.1]
  by_cases h1 : pb.length ≠ 3
  · rw [if_pos h1, if_pos h1]
  · rw [if_neg h1, if_neg h1]
    have e2 : ((∀ y ∈ pa, inT A y) ∧ inT A sa ∧ inT A xa) ↔ ((∀ y ∈ pb, inT B y) ∧ inT B sb ∧ inT B xb) := by rw [hp.all, hs.inT, hx.inT]
    by_cases h2 : (∀ y ∈ pb, inT B y) ∧ inT B sb ∧ inT B xb
    · rw [if_neg (show ¬ ¬ ((∀ y ∈ pa, inT A y) ∧ inT A sa ∧ inT A xa) from fun h => h (e2.2 h2)), if_neg (show ¬ ¬ ((∀ y ∈ pb, inT B y) ∧ inT B sb ∧ inT B xb) from fun h => h h2)]
      have hev := RelL.ev hp h2.1
      have e3 : (∃ y ∈ pa, (tmAt A y).kind ≠ 5) ↔ ∃ y ∈ pb, (tmAt B y).kind ≠ 5 := by
        have hl := hev.1
        constructor
        · rintro ⟨y, hy, hk⟩
          obtain ⟨q, hq⟩ := List.getElem?_of_mem hy
          have hql := (List.getElem?_eq_some_iff.1 hq).1
          exact ⟨_, List.getElem_mem (by omega : q < pb.length), by rw [← (hev.2 q y _ hq (List.getElem?_eq_getElem _)).tm.1]; exact hk⟩
        · rintro ⟨y, hy, hk⟩
          obtain ⟨q, hq⟩ := List.getElem?_of_mem hy
          have hql := (List.getElem?_eq_some_iff.1 hq).1
          exact ⟨_, List.getElem_mem (by omega : q < pa.length), by rw [(hev.2 q _ y (List.getElem?_eq_getElem _) hq).tm.1]; exact hk⟩
      by_cases h3 : ∃ y ∈ pb, (tmAt B y).kind ≠ 5
      · rw [if_pos (e3.2 h3), if_pos h3]
      · rw [if_neg (fun h => h3 (e3.1 h)), if_neg h3]
    · rw [if_pos (show ¬ ((∀ y ∈ pa, inT A y) ∧ inT A sa ∧ inT A xa) from fun h => h2 (e2.1 h)), if_pos h2]

theorem Ev.argZ {A B : List Tm} (hA : TOk A) (hB : TOk B) {k x : Int} (h : Ev A B k x) (hl : 1 ≤ (tmAt B x).args.length) : Ev A B (arg0 (tmAt A k)) (arg0 (tmAt B x)) := by
  have ha := h.args hA hB
  have h1 := ha.1
  have := ha.at_ (i := 0) (by omega)
  have e : ∀ t : Tm, arg0 t = t.args[0]?.getD 0 := fun t => rfl
  rw [e, e]
  exact this

theorem leastLen {T : List Tm} (hT : TOk T) {x : Int} (hx : inT T x) : least (tmAt T x).kind ≤ (tmAt T x).args.length := by
  have hlt : x.toNat < T.length := by unfold inT at hx; omega
  have e : T[x.toNat]? = some (tmAt T x) := by unfold tmAt; rw [List.getElem?_eq_getElem hlt]; rfl
  exact (errZ (hT.good _ _ e)).2.2.1

theorem EvL.drop {A B : List Tm} {ks xs : List Int} (h : EvL A B ks xs) (m : Nat) : EvL A B (ks.drop m) (xs.drop m) := by
  refine ⟨by rw [List.length_drop, List.length_drop, h.1], fun q k x hk hx => ?_⟩
  rw [List.getElem?_drop] at hk hx
  exact h.2 _ k x hk hx

theorem open_rel {A B : List Tm} (hA : TOk A) (hB : TOk B) {i k j l : Int} (h : Rel A B i j) (hk : Rel A B k l) : (openT A i k).2 = (openT B j l).2 ∧ EvL A B (openT A i k).1 (openT B j l).1 := by
  unfold openT
  by_cases h1 : inT B j ∧ inT B l
  · rw [if_neg (show ¬ ¬ (inT A i ∧ inT A k) from fun hn => hn ⟨h.inT.2 h1.1, hk.inT.2 h1.2⟩), if_neg (show ¬ ¬ (inT B j ∧ inT B l) from fun hn => hn h1)]
    have e := h.ev h1.1
    have ek := hk.ev h1.2
    rw [e.tm.1]
    by_cases h2 : (tmAt B j).kind ≠ 6
    · rw [if_pos h2, if_pos h2]; exact ⟨rfl, EvL.nil _ _⟩
    · rw [if_neg h2, if_neg h2]
      have h6 : (tmAt B j).kind = 6 := Classical.not_not.1 h2
      have ll := leastLen hB h1.1
      rw [h6] at ll
      have e0 := e.argZ hA hB (by simp [least] at ll; omega)
      have hiff : arg0 (tmAt A i) ≠ k ↔ arg0 (tmAt B j) ≠ l := by
        constructor
        · intro hn e; exact hn (by rw [← e] at ek; exact e0.left hA ek)
        · intro hn e; exact hn (by rw [← e] at ek; exact e0.right hB ek)
      by_cases h3 : arg0 (tmAt B j) ≠ l
      · rw [if_pos (hiff.2 h3), if_pos h3]; exact ⟨rfl, EvL.nil _ _⟩
      · rw [if_neg (fun h => h3 (hiff.1 h)), if_neg h3]; exact ⟨rfl, (e.args hA hB).drop 1⟩
  · rw [if_pos (show ¬ (inT A i ∧ inT A k) from fun hn => h1 ⟨h.inT.1 hn.1, hk.inT.1 hn.2⟩), if_pos h1]; exact ⟨rfl, EvL.nil _ _⟩

theorem unbox_rel {A B : List Tm} (hA : TOk A) (hB : TOk B) {i k j l : Int} (h : Rel A B i j) (hk : Rel A B k l) : (unboxT A i k).2 = (unboxT B j l).2 ∧ EvL A B (unboxT A i k).1 (unboxT B j l).1 := by
  unfold unboxT
  by_cases h1 : inT B j ∧ inT B l
  · rw [if_neg (show ¬ ¬ (inT A i ∧ inT A k) from fun hn => hn ⟨h.inT.2 h1.1, hk.inT.2 h1.2⟩), if_neg (show ¬ ¬ (inT B j ∧ inT B l) from fun hn => hn h1)]
    have e := h.ev h1.1
    have ek := hk.ev h1.2
    rw [e.tm.1]
    by_cases h2 : (tmAt B j).kind ≠ 7
    · rw [if_pos h2, if_pos h2]; exact ⟨rfl, EvL.nil _ _⟩
    · rw [if_neg h2, if_neg h2]
      have h7 : (tmAt B j).kind = 7 := Classical.not_not.1 h2
      have ll := leastLen hB h1.1
      rw [h7] at ll
      have e0 := e.argZ hA hB (by simp [least] at ll; omega)
      rw [e0.tm.1]
      by_cases h3 : (tmAt B (arg0 (tmAt B j))).kind ≠ 5
      · rw [if_pos h3, if_pos h3]; exact ⟨rfl, EvL.nil _ _⟩
      · rw [if_neg h3, if_neg h3]
        have h5 : (tmAt B (arg0 (tmAt B j))).kind = 5 := Classical.not_not.1 h3
        have l2 := leastLen hB e0.inB
        rw [h5] at l2
        have e1 := e0.argZ hA hB (by simp [least] at l2; omega)
        have hiff : arg0 (tmAt A (arg0 (tmAt A i))) ≠ k ↔ arg0 (tmAt B (arg0 (tmAt B j))) ≠ l := by
          constructor
          · intro hn e; exact hn (by rw [← e] at ek; exact e1.left hA ek)
          · intro hn e; exact hn (by rw [← e] at ek; exact e1.right hB ek)
        by_cases h4 : arg0 (tmAt B (arg0 (tmAt B j))) ≠ l
        · rw [if_pos (hiff.2 h4), if_pos h4]; exact ⟨rfl, EvL.nil _ _⟩
        · rw [if_neg (fun h => h4 (hiff.1 h)), if_neg h4]; exact ⟨rfl, (e.args hA hB).drop 2⟩
  · rw [if_pos (show ¬ (inT A i ∧ inT A k) from fun hn => h1 ⟨h.inT.1 hn.1, hk.inT.1 hn.2⟩), if_pos h1]; exact ⟨rfl, EvL.nil _ _⟩

theorem peel_rel {A B : List Tm} (hA : TOk A) (hB : TOk B) {s o t p : Int} (hs : Rel A B s t) (ho : Rel A B o p) :
    (peelT A s o).2.2 = (peelT B t p).2.2 ∧ ((peelT B t p).2.2 ≠ 0 → peelT A s o = (0, 0, (peelT B t p).2.2)) ∧ ((peelT B t p).2.2 = 0 → Ev A B (peelT A s o).1 (peelT B t p).1 ∧ Ev A B (peelT A s o).2.1 (peelT B t p).2.1) := by
  obtain ⟨h1, h2⟩ := unbox_rel hA hB ho hs
  have hl := h2.1
  unfold peelT
  rw [h1, hl]
  by_cases e1 : (unboxT B p t).2 ≠ 0
  · rw [if_pos e1, if_pos e1]; exact ⟨rfl, fun _ => rfl, fun h => absurd h e1⟩
  · rw [if_neg e1, if_neg e1]
    by_cases e2 : (unboxT B p t).1.length ≠ 2
    · rw [if_pos e2, if_pos e2]; exact ⟨rfl, fun _ => rfl, fun h => absurd h (by decide)⟩
    · rw [if_neg e2, if_neg e2]
      refine ⟨rfl, fun h => absurd rfl h, fun _ => ⟨h2.at_ (by omega), h2.at_ (by omega)⟩⟩

theorem read_rel {A B : List Tm} (hA : TOk A) (hB : TOk B) : ∀ {ks ls : List Int} {x y : Int}, RelL A B ks ls → Rel A B x y → (readL A ks x).2 = (readL B ls y).2 ∧ ((readL B ls y).2 ≠ 0 → (readL A ks x).1 = 0) ∧ ((readL B ls y).2 = 0 → Rel A B (readL A ks x).1 (readL B ls y).1) := by
  intro ks
  induction ks with
  | nil =>
    intro ls x y h hx
    match ls, h.1 with
    | [], _ => exact ⟨rfl, fun h => absurd rfl h, fun _ => hx⟩
  | cons k r ih =>
    intro ls x y h hx
    match ls, h.1 with
    | l :: q, hl =>
      have hkl : Rel A B k l := h.2 0 k l rfl rfl
      have hrest : RelL A B r q := ⟨by simpa using hl, fun i a b ha hb => h.2 (i + 1) a b (by simpa using ha) (by simpa using hb)⟩
      obtain ⟨h1, h2⟩ := open_rel hA hB hx hkl
      have hl2 := h2.1
      rw [readL_cons, readL_cons, h1, hl2]
      by_cases e1 : (openT B y l).2 ≠ 0
      · rw [if_pos e1, if_pos e1]; exact ⟨rfl, fun _ => rfl, fun h => absurd h e1⟩
      · rw [if_neg e1, if_neg e1]
        by_cases e2 : (openT B y l).1.length ≠ 1
        · rw [if_pos e2, if_pos e2]; exact ⟨rfl, fun _ => rfl, fun h => absurd h (by decide)⟩
        · rw [if_neg e2, if_neg e2]
          exact ih hrest (h2.at_ (i := 0) (by omega)).rel

/-! a pair -/

def PairAt (W w : World) (pp a b : Addr) (A B : List Tm) (n : Nat) (R : List Asn) : Prop :=
  ∃ M, At W w (prA pp a b M :: arT a A :: pgT b B :: R) ∧ PairOk A B M ∧ Nb B ∧ A.length + (B.length - M.length) ≤ n ∧ B.length ≤ n

section
variable {W w w' : World} {R R' : List Asn} {pp a b : Addr} {A B A' B' : List Tm} {n : Nat}

theorem PairAt.base (h : PairAt W w pp a b A B n R) : Below W.heap.size W w := by obtain ⟨M, h, _⟩ := h; exact h.b
theorem PairAt.cells (h : PairAt W w pp a b A B n R) : w.cell? pp = some (.pointer (some a)) ∧ w.cell? (pp.add 1) = some (.pointer (some b)) := by
  obtain ⟨M, h, _⟩ := h
  exact prCells h.s
theorem PairAt.ok (h : PairAt W w pp a b A B n R) : TOk A ∧ TOk B := by
  obtain ⟨M, h, _⟩ := h
  exact ⟨(h.front 1 rfl).ok, (h.front 2 rfl).pok⟩
theorem PairAt.lens (h : PairAt W w pp a b A B n R) : A.length ≤ n ∧ B.length ≤ n := by
  obtain ⟨M, _, _, _, h1, h2⟩ := h
  omega
theorem PairAt.nb (h : PairAt W w pp a b A B n R) : Nb B := by obtain ⟨M, _, _, h, _⟩ := h; exact h
theorem PairAt.more (h : PairAt W w pp a b A B n R) {m : Nat} (hm : n ≤ m) : PairAt W w pp a b A B m R := by
  obtain ⟨M, h1, h2, h3, h4, h5⟩ := h
  exact ⟨M, h1, h2, h3, by omega, by omega⟩
theorem PairAt.drew (h : PairAt W w pp a b A B n R) : PairAt W w.drew pp a b A B n R := by
  obtain ⟨M, h1, h2⟩ := h
  exact ⟨M, h1.drew, h2⟩
theorem PairAt.same (h : PairAt W w pp a b A B n R) (hs : Same w w') : PairAt W w' pp a b A B n R := by
  obtain ⟨M, h1, h2⟩ := h
  exact ⟨M, h1.same hs, h2⟩
theorem PairAt.rest (h : PairAt W w pp a b A B n R) : At W w R := by
  obtain ⟨M, h1, h2⟩ := h
  exact h1.drop.drop.drop
theorem PairAt.onR (h : PairAt W w pp a b A B n R) (f : ∀ M, At W w (prA pp a b M :: arT a A :: pgT b B :: R) → At W w' (prA pp a b M :: arT a A :: pgT b B :: R')) : PairAt W w' pp a b A B n R' := by
  obtain ⟨M, h1, h2⟩ := h
  exact ⟨M, f M h1, h2⟩
theorem PairAt.perm (h : PairAt W w pp a b A B n R) (hp : R.Perm R') : PairAt W w pp a b A B n R' := h.onR fun M h1 => h1.perm (((hp.cons _).cons _).cons _)
theorem PairAt.dropR {X : Asn} (h : PairAt W w pp a b A B n (X :: R)) : PairAt W w pp a b A B n R := h.onR fun M h1 => by
  have h2 := (h1.front 3 rfl).drop
  exact h2
theorem PairAt.swapR {X Y : Asn} (h : PairAt W w pp a b A B n (X :: Y :: R)) : PairAt W w pp a b A B n (Y :: X :: R) := h.perm (List.Perm.swap _ _ _)

/-- to the program's arena -/
theorem PairAt.toA (h : PairAt W w pp a b A B n R) : ∃ M, At W w (arT a A :: prA pp a b M :: pgT b B :: R) ∧ PairOk A B M ∧ Nb B ∧ A.length + (B.length - M.length) ≤ n ∧ B.length ≤ n := by
  obtain ⟨M, h1, h2⟩ := h
  exact ⟨M, h1.swap, h2⟩
theorem PairAt.ofA {M : List Nat} {i : Nat} (h : At W w' (arT a A' :: prA pp a b M :: pgT b B :: R')) (hp : PairOk A B M) (he : Ext A A') (hl : A'.length ≤ A.length + i) (hnb : Nb B) (h2 : A.length + (B.length - M.length) ≤ n) (h3 : B.length ≤ n) : PairAt W w' pp a b A' B (n + i) R' :=
  ⟨M, h.swap, hp.mono he (Ext.refl _), hnb, by omega, by omega⟩
/-- to the page's -/
theorem PairAt.toB (h : PairAt W w pp a b A B n R) : ∃ M, At W w (pgT b B :: prA pp a b M :: arT a A :: R) ∧ PairOk A B M ∧ Nb B ∧ A.length + (B.length - M.length) ≤ n ∧ B.length ≤ n := by
  obtain ⟨M, h1, h2⟩ := h
  exact ⟨M, h1.front 2 rfl, h2⟩
theorem PairAt.ofB {M : List Nat} {i : Nat} (h : At W w' (pgT b B' :: prA pp a b M :: arT a A :: R')) (hp : PairOk A B M) (he : Ext B B') (hl : B'.length ≤ B.length + i) (hnb : Nb B') (h2 : A.length + (B.length - M.length) ≤ n) (h3 : B.length ≤ n) : PairAt W w' pp a b A B' (n + i) R' := by
  have := hp.len
  exact ⟨M, (h.front 2 rfl).front 2 rfl, hp.mono (Ext.refl _) he, hnb, by omega, by omega⟩

theorem PairAt.pages (h : PairAt W w pp a b A B n R) : ∃ ba bc, w.cell? b = some (.slice ba B.length bc) := by
  obtain ⟨M, h1, _⟩ := h.toB
  obtain ⟨N, hN, hs⟩ := Sep.pgOut h1.s
  obtain ⟨ba, bc, hc, _⟩ := pg_at hs
  have : N.length = B.length := by rw [← terms_len, hN]
  rw [this] at hc
  exact ⟨ba, bc, hc⟩

theorem pT_at (h : PairAt W w pp a b A B n R) (hn : n ≤ 900000) (i : Int) :
    CallsV Tryd.prog n_trystlaw10_Pair_T #[.pointer (some pp), .int .i64 i] w fun v w' => ∃ (k : Int) (A' : List Tm), v = .int .i64 k ∧ PairAt W w' pp a b A' B n R ∧ Ext A A' ∧ Rel A' B k i := by
  obtain ⟨M, h1, hp, hnb, h2, h3⟩ := h
  refine (pairT (R := R) h1 hp hnb (by omega) i).mono ?_
  rintro _ w' ⟨k, A', M', rfl, h4, hto, hr⟩
  have := hto.few
  exact ⟨k, A', rfl, ⟨M', h4, hto.ok, hnb, by omega, h3⟩, hto.ext, hr⟩

theorem pTs_at (h : PairAt W w pp a b A B n R) (hn : n ≤ 900000) {s : Sl} {xs : List Int} (hl : xs.length ≤ 1000000) (hI : ∀ L w', At W w' (L ++ R) → Ints .i64 w' s xs) :
    CallsV Tryd.prog n_trystlaw10_Pair_Ts #[.pointer (some pp), .slice s.a s.len s.cap] w fun v w' => ∃ (s' : Sl) (ks : List Int) (A' : List Tm), v = .slice s'.a s'.len s'.cap ∧ PairAt W w' pp a b A' B n (ownA s' ks :: R) ∧ Ext A A' ∧ RelL A' B ks xs := by
  obtain ⟨M, h1, hp, hnb, h2, h3⟩ := h
  refine (pairTs (R := R) h1 hp hnb (by omega) hl hI).mono ?_
  rintro _ w' ⟨s', ks, A', M', rfl, h4, hto, hr⟩
  have := hto.few
  exact ⟨s', ks, A', rfl, ⟨M', h4, hto.ok, hnb, by omega, h3⟩, hto.ext, hr⟩

theorem ris_at {p : Addr} {T : List Tm} (h : At W w (pgT p T :: R)) (i k : Int) :
    CallsV Tryd.prog n_trystref10_Arena_Is #[.pointer (some p), .int .i64 i, .int .i64 k] w fun v w' => v = .bool (decide (inT T i ∧ (tmAt T i).kind = k)) ∧ At W w' (pgT p T :: R) := by
  refine trystref10_Arena_Is.lift ?_
  unfold trystref10_Arena_Is.main
  intro w1
  refine (rhas_new [i] h (by simp)).mono ?_
  rintro _ w2 ⟨rfl, h2⟩
  have hiff : (∀ x ∈ [i], inT T x) ↔ inT T i := by simp
  refine ⟨_, rfl, cond_c (fun ht => ?_) fun hf => ?_⟩
  · have hin := hiff.1 (of_decide_eq_true ht)
    obtain ⟨N, hN, hs⟩ := Sep.pgOut h2.s
    obtain ⟨ba, bc, hc, hn⟩ := pg_at hs
    have hin' := hin
    rw [← hN] at hin'
    obtain ⟨sl, hsl⟩ := at_in hin'
    obtain ⟨q, hq, d0, _⟩ := hn _ _ hsl
    have hlt := (List.getElem?_eq_some_iff.1 hsl).1
    unfold inT at hin'
    refine ⟨p, rfl, _, _, _, hc, by omega, by omega, q, hq, _, d0, ?_, h2⟩
    rw [hN]
    congr 1
    simp [hin]
    rfl
  · have hin : ¬ inT T i := fun h => of_decide_eq_false hf (hiff.2 h)
    refine ⟨?_, h2⟩
    rw [decide_eq_false (fun h => hin h.1)]
end

end Go.Proofs.YtoclhecldmahiaaDoor
