/-
  An onion: which terms are put, what is peeled and read; the program's contracts and the page's.
-/
import Derived.Test.YtoclhecldmahiaaDoorScA
import Derived.Test.YtoclhecldmahiaaDoorOcFns
set_option linter.unusedVariables false
set_option linter.unusedVariables false
set_option linter.unusedSimpArgs false
namespace Go.Proofs.YtoclhecldmahiaaDoor
open Go.Lf Go.RowKit

theorem Grown.mono {T T' : List Tm} {i j : Nat} (h : Grown T T' i) (hij : i ≤ j) : Grown T T' j := ⟨h.ext, Nat.le_trans h.len (by omega), h.nb⟩

/-! the terms -/

/-- so many of the keys -/
def keyS (T : List Tm) (s : Int) : Nat → List Tm × List Int
  | 0 => (T, [])
  | m + 1 => ((put (keyS T s m).1 ⟨4, ((50 + m : Nat) : Int), [s]⟩).1, (keyS T s m).2 ++ [(put (keyS T s m).1 ⟨4, ((50 + m : Nat) : Int), [s]⟩).2.1])
def withS (T : List Tm) (s : Int) (m : Nat) : List Tm × Int × Int := put T ⟨4, ((60 + (2 - m) : Nat) : Int), [s]⟩
/-- so many of the layers -/
def layS (T : List Tm) (pubs keys : List Int) (s x : Int) : Nat → List Tm × Int
  | 0 => (T, x)
  | m + 1 =>
    ((put (withS (layS T pubs keys s x m).1 s m).1 ⟨7, 0, [pubs[2 - m]?.getD 0, (withS (layS T pubs keys s x m).1 s m).2.1, (layS T pubs keys s x m).2, keys[2 - m]?.getD 0]⟩).1,
     (put (withS (layS T pubs keys s x m).1 s m).1 ⟨7, 0, [pubs[2 - m]?.getD 0, (withS (layS T pubs keys s x m).1 s m).2.1, (layS T pubs keys s x m).2, keys[2 - m]?.getD 0]⟩).2.1)
def wrapT (T : List Tm) (pubs : List Int) (s x : Int) : List Tm × Int × List Int :=
  ((layS (keyS T s 3).1 pubs (keyS T s 3).2 s x 3).1, (layS (keyS T s 3).1 pubs (keyS T s 3).2 s x 3).2, (keyS T s 3).2)

theorem keyS_good {T : List Tm} {s : Int} (hs : inT T s) (hl : T.length ≤ 1000000) : ∀ m, m ≤ 3 → Grown T (keyS T s m).1 m ∧ (keyS T s m).2.length = m ∧
    ∀ (j : Nat) (k : Int), (keyS T s m).2[j]? = some k → ∃ n : Nat, k = n ∧ (keyS T s m).1[n]? = some ⟨4, ((50 + j : Nat) : Int), [s]⟩ := by
  intro m
  induction m with
  | zero => exact fun _ => ⟨Grown.refl T, rfl, fun j k h => by simp [keyS] at h⟩
  | succ m ih =>
    intro hm
    obtain ⟨h1, h2, h3⟩ := ih (by omega)
    have hlen := h1.len
    have hg : Grown (keyS T s m).1 (keyS T s (m + 1)).1 1 := Grown.put _ (by show ((50 + m : Nat) : Int) ≤ _; omega)
    obtain ⟨n, g1, g2, g3⟩ := putAt (T := (keyS T s m).1) (err_kdf (n := ((50 + m : Nat) : Int)) (h1.ext.inT hs) (by omega)) (by omega)
    refine ⟨h1.trans hg, by show ((keyS T s m).2 ++ [_]).length = _; simp [h2], fun j k hk => ?_⟩
    have hk : ((keyS T s m).2 ++ [(put (keyS T s m).1 ⟨4, ((50 + m : Nat) : Int), [s]⟩).2.1])[j]? = some k := hk
    rw [List.getElem?_append] at hk
    split at hk
    · obtain ⟨n, e, hn⟩ := h3 j k hk
      exact ⟨n, e, hg.ext _ _ hn⟩
    · rename_i hj
      have := (List.getElem?_eq_some_iff.1 hk).1
      simp at this
      have e : j = m := by omega
      subst e
      rw [h2, Nat.sub_self, List.getElem?_cons_zero] at hk
      have hk := Option.some.inj hk
      rw [g1] at hk
      exact ⟨n, hk.symm, g3⟩

theorem keyS_in {T : List Tm} {s : Int} (hs : inT T s) (hl : T.length ≤ 1000000) {m : Nat} (hm : m ≤ 3) : ∀ k ∈ (keyS T s m).2, inT (keyS T s m).1 k := by
  intro k hk
  obtain ⟨j, hj⟩ := List.getElem?_of_mem hk
  obtain ⟨n, rfl, hn⟩ := (keyS_good hs hl m hm).2.2 j k hj
  exact inT_of hn

theorem getD_in {T : List Tm} {xs : List Int} (h : ∀ x ∈ xs, inT T x) {i : Nat} (hi : i < xs.length) : inT T (xs[i]?.getD 0) := by
  rw [List.getElem?_eq_getElem hi]
  exact h _ (List.getElem_mem hi)

theorem err_box {T : List Tm} {p w x k : Int} (hp : inT T p) (hw : inT T w) (hx : inT T x) (hk : inT T k) : errOf T ⟨7, 0, [p, w, x, k]⟩ = 0 :=
  errOk (by simp) (by simp) (.inr rfl) (by simp [least]) (by simp [mostOf]) (by simp; exact ⟨hp, hw, hx, hk⟩)

/-- each layer -/
theorem layS_good {T : List Tm} {pubs keys : List Int} {s x : Int} (hs : inT T s) (hx : inT T x) (hp : ∀ y ∈ pubs, inT T y) (hk : ∀ y ∈ keys, inT T y) (hpl : pubs.length = 3) (hkl : keys.length = 3) (hl : T.length ≤ 1000000) :
    ∀ m, m ≤ 3 → Grown T (layS T pubs keys s x m).1 (2 * m) ∧ inT (layS T pubs keys s x m).1 (layS T pubs keys s x m).2 ∧
      ∀ j, j < m → ∃ o w : Nat, (layS T pubs keys s x (j + 1)).2 = o ∧ (layS T pubs keys s x m).1[o]? = some ⟨7, 0, [pubs[2 - j]?.getD 0, (w : Int), (layS T pubs keys s x j).2, keys[2 - j]?.getD 0]⟩ ∧ (layS T pubs keys s x m).1[w]? = some ⟨4, ((60 + (2 - j) : Nat) : Int), [s]⟩ := by
  intro m
  induction m with
  | zero => exact fun _ => ⟨Grown.refl T, hx, fun j hj => by omega⟩
  | succ m ih =>
    intro hm
    obtain ⟨h1, h2, h3⟩ := ih (by omega)
    have hlen := h1.len
    obtain ⟨T1, hT1⟩ : ∃ T1, T1 = layS T pubs keys s x m := ⟨_, rfl⟩
    have hdef : layS T pubs keys s x (m + 1) = ((put (withS T1.1 s m).1 ⟨7, 0, [pubs[2 - m]?.getD 0, (withS T1.1 s m).2.1, T1.2, keys[2 - m]?.getD 0]⟩).1, (put (withS T1.1 s m).1 ⟨7, 0, [pubs[2 - m]?.getD 0, (withS T1.1 s m).2.1, T1.2, keys[2 - m]?.getD 0]⟩).2.1) := by rw [hT1]; rfl
    rw [← hT1] at h1 h2 h3 hlen
    have hg1 : Grown T1.1 (withS T1.1 s m).1 1 := Grown.put _ (by show ((60 + (2 - m) : Nat) : Int) ≤ _; omega)
    obtain ⟨w, g1, g2, g3⟩ := putAt (T := T1.1) (err_kdf (n := ((60 + (2 - m) : Nat) : Int)) (h1.ext.inT hs) (by omega)) (by omega)
    have g1 : (withS T1.1 s m).2.1 = w := g1
    have g3 : (withS T1.1 s m).1[w]? = some ⟨4, ((60 + (2 - m) : Nat) : Int), [s]⟩ := g3
    have he1 := h1.ext.trans hg1.ext
    have hl1 := hg1.len
    obtain ⟨o, f1, f2, f3⟩ := putAt (T := (withS T1.1 s m).1) (err_box (p := pubs[2 - m]?.getD 0) (w := (withS T1.1 s m).2.1) (x := T1.2) (k := keys[2 - m]?.getD 0) (he1.inT (getD_in hp (by omega))) (by rw [g1]; exact inT_of g3) (hg1.ext.inT h2) (he1.inT (getD_in hk (by omega)))) (by omega)
    have hg2 : Grown (withS T1.1 s m).1 (layS T pubs keys s x (m + 1)).1 1 := by rw [hdef]; exact Grown.put _ (by simp)
    refine ⟨((h1.trans hg1).trans hg2).mono (by omega), by rw [hdef]; show inT _ _; rw [f1]; exact inT_of f3, fun j hj => ?_⟩
    rcases Nat.lt_or_eq_of_le (Nat.le_of_lt_succ hj) with hj | rfl
    · obtain ⟨o', w', e1, e2, e3⟩ := h3 j hj
      exact ⟨o', w', e1, hg2.ext _ _ (hg1.ext _ _ e2), hg2.ext _ _ (hg1.ext _ _ e3)⟩
    · refine ⟨o, w, by rw [hdef]; exact f1, ?_, hg2.ext _ _ g3⟩
      rw [hdef]
      rw [g1] at f3 ⊢
      rw [← hT1]
      exact f3

/-- what is wrong with what is to be wrapped -/
def wrapErr (T : List Tm) (pubs : List Int) (s x : Int) : Int :=
  if pubs.length ≠ 3 then 2 else if ¬ ((∀ y ∈ pubs, inT T y) ∧ inT T s ∧ inT T x) then 8 else if ∃ y ∈ pubs, (tmAt T y).kind ≠ 5 then 6 else 0
theorem wrapErr0 {T : List Tm} {pubs : List Int} {s x : Int} : wrapErr T pubs s x = 0 ↔ pubs.length = 3 ∧ (∀ y ∈ pubs, inT T y) ∧ inT T s ∧ inT T x ∧ ∀ y ∈ pubs, (tmAt T y).kind = 5 := by
  unfold wrapErr
  constructor
  · intro h
    split at h
    · omega
    · rename_i h1
      split at h
      · omega
      · rename_i h2
        split at h
        · omega
        · rename_i h3
          have h2 := Classical.not_not.1 h2
          exact ⟨by omega, h2.1, h2.2.1, h2.2.2, fun y hy => Classical.byContradiction fun hn => h3 ⟨y, hy, hn⟩⟩
  · rintro ⟨h1, h2, h3, h4, h5⟩
    rw [if_neg (by omega), if_neg (fun h => h ⟨h2, h3, h4⟩), if_neg]
    rintro ⟨y, hy, hn⟩
    exact hn (h5 y hy)

def peelT (T : List Tm) (s o : Int) : Int × Int × Int :=
  if (unboxT T o s).2 ≠ 0 then (0, 0, (unboxT T o s).2) else if (unboxT T o s).1.length ≠ 2 then (0, 0, 6) else ((unboxT T o s).1[0]?.getD 0, (unboxT T o s).1[1]?.getD 0, 0)
def readL (T : List Tm) : List Int → Int → Int × Int
  | [], x => (x, 0)
  | k :: r, x => if (openT T x k).2 ≠ 0 then (0, (openT T x k).2) else if (openT T x k).1.length ≠ 1 then (0, 6) else readL T r ((openT T x k).1[0]?.getD 0)
theorem readL_cons (T : List Tm) (k : Int) (r : List Int) (x : Int) : readL T (k :: r) x = if (openT T x k).2 ≠ 0 then (0, (openT T x k).2) else if (openT T x k).1.length ≠ 1 then (0, 6) else readL T r ((openT T x k).1[0]?.getD 0) := rfl
def readP (T : List Tm) (keys : List Int) (x : Int) : Int × Int :=
  if keys.length ≠ 3 then (0, 2) else if ¬ ((∀ y ∈ keys, inT T y) ∧ inT T x) then (0, 8) else readL T keys x

section
variable {W w : World} {L R : List Asn} {p : Addr} {T : List Tm}

theorem unbox_at (h : At W w (arT p T :: R)) (i k : Int) :
    CallsV Tryd.prog n_term_Arena_Unbox #[.pointer (some p), .int .i64 i, .int .i64 k] w fun v w' => ∃ s' : Sl, v = .tuple #[.slice s'.a s'.len s'.cap, .int .i64 (unboxT T i k).2] ∧ At W w' (ownA s' (unboxT T i k).1 :: arT p T :: R) := by
  obtain ⟨N, rfl, hs⟩ := Sep.arOut h.s
  refine (unbox_spec hs i k).mono ?_
  rintro _ w' ⟨s', rfl, hs', hb⟩
  exact ⟨s', rfl, (h.go (Sep.arIn hs'.swap rfl) hb).swap⟩
theorem peel_at (h : At W w (arT p T :: R)) (s o : Int) :
    CallsV Tryd.prog n_onion_Peel #[.pointer (some p), .int .i64 s, .int .i64 o] w fun v w' => v = .tuple #[.int .i64 (peelT T s o).1, .int .i64 (peelT T s o).2.1, .int .i64 (peelT T s o).2.2] ∧ At W w' (arT p T :: R) := by
  refine onion_Peel.lift ?_
  unfold onion_Peel.main
  refine (unbox_at h o s).mono ?_
  rintro _ w1 ⟨s', rfl, h1⟩
  have hlen := h1.numLen 0 rfl
  refine ⟨_, _, _, _, rfl, cond_n (fun he => ?_) fun he => ?_⟩
  · refine ⟨?_, h1.drop⟩
    unfold peelT; rw [if_pos he]
  · refine cond_n (fun h2 => ?_) fun h2 => ?_
    · have h2 : (unboxT T o s).1.length ≠ 2 := by omega
      refine ⟨?_, h1.drop⟩
      unfold peelT; rw [if_neg (fun h => h he), if_pos h2]
    · have h2 : (unboxT T o s).1.length = 2 := by omega
      obtain ⟨q, hq, hc⟩ := h1.num 0 rfl (i := 0) (by omega)
      obtain ⟨q', hq', hc'⟩ := h1.num 0 rfl (i := 1) (by omega)
      refine ⟨by omega, by omega, q, hq, _, hc, by omega, by omega, q', hq', _, hc', ?_, h1.drop.drew⟩
      unfold peelT
      rw [if_neg (fun h => h he), if_neg (fun h => h h2), List.getElem?_eq_getElem (by omega), List.getElem?_eq_getElem (by omega)]
      rfl

theorem back_at (h : At W w (arT p T :: R)) (k x : Int) :
    CallsV Tryd.prog n_onion_Back #[.pointer (some p), .int .i64 k, .int .i64 x] w fun v w' => v = .tuple #[.int .i64 (put T ⟨6, 0, [k, x]⟩).2.1, .int .i64 (put T ⟨6, 0, [k, x]⟩).2.2] ∧ At W w' (arT p (put T ⟨6, 0, [k, x]⟩).1 :: R) := by
  refine onion_Back.lift ?_
  unfold onion_Back.main
  intro w1
  refine (mk 6 0 [k, x] h (by omega) (by simp)).mono ?_
  rintro _ w2 ⟨rfl, h2⟩
  exact ⟨_, _, rfl, rfl, h2⟩

theorem rowsI (k : Nat) {s : Sl} {xs : List Int} (hk : R[k]? = some (ownA s xs)) (hx : xs.length ≤ 1000000000) : ∀ L w', At W w' (L ++ R) → Ints .i64 w' s xs := fun L w' hs => rowNow k hk hs.dropL.s (by omega)

end

end Go.Proofs.YtoclhecldmahiaaDoor

/-
  An onion is wrapped: contracts of the program and of the page.
-/
set_option linter.unusedVariables false
set_option linter.unusedSimpArgs false
namespace Go.Proofs.YtoclhecldmahiaaDoor
open Go.Lf Go.RowKit

section
variable {W w : World} {L R : List Asn} {p : Addr} {T : List Tm}

/-- the page's, where nothing is wrong -/
theorem rwrap_at (h : At W w (pgT p T :: R)) {sp : Sl} {pubs : List Int} {s x : Int} (he : wrapErr T pubs s x = 0) (hl : T.length ≤ 900000) (hI : ∀ L w', At W w' (L ++ R) → Ints .i64 w' sp pubs) :
    CallsV Tryd.prog n_trystref22_Wrap #[.pointer (some p), .slice sp.a sp.len sp.cap, .int .i64 s, .int .i64 x] w fun v w' => ∃ s' : Sl, v = .tuple #[.int .i64 (wrapT T pubs s x).2.1, .slice s'.a s'.len s'.cap] ∧
      At W w' (ownA s' (wrapT T pubs s x).2.2 :: pgT p (wrapT T pubs s x).1 :: R) := by
  refine trystref22_Wrap.lift ?_
  unfold trystref22_Wrap.main trystref22_Wrap.l4
  obtain ⟨hp3, ht, hs, hx, _⟩ := wrapErr0.1 he
  have hlen := (hI [_] w h).len
  refine ⟨fun t w' => ∃ m : Nat, t.2 = m ∧ m ≤ 3 ∧ At W w' (ownA t.1 (keyS T s m).2 :: pgT p (keyS T s m).1 :: R), fun t _ => 3 - t.2.toNat, ⟨0, rfl, by omega, h.nil⟩, ?_⟩
  rintro ⟨sk, _⟩ w1 ⟨m, rfl, hm, h1⟩
  show trystref22_Wrap.b4 _ _ (some p) sp s x sk (m : Int) w1
  unfold trystref22_Wrap.b4
  have h1 : At W w1 (ownA sk (keyS T s m).2 :: pgT p (keyS T s m).1 :: R) := h1
  obtain ⟨kg, kl, _⟩ := keyS_good hs (by omega) m (by omega)
  refine cond_d (p := ((m : Nat) : Int) < 3) (fun hlt => ?_) fun hge => ?_
  · have e50 : IntKind.i64.wrap (50 + (m : Int)) = ((50 + m : Nat) : Int) := by rw [w64 (by omega)]; omega
    rw [e50]
    refine (rkdf s ((50 + m : Nat) : Int) h1.swap).mono ?_
    rintro _ w2 ⟨rfl, h2⟩
    refine ⟨_, rfl, ?_⟩
    intro w3
    obtain ⟨s4, w4, hr4, h4⟩ := more_at 1 rfl h2 (put (keyS T s m).1 ⟨4, ((50 + m : Nat) : Int), [s]⟩).2.1 (by omega)
    refine ⟨_, _, _, _, hr4, ?_⟩
    dsimp only
    rw [inc (by omega)]
    have h4 : At W w4 (pgT p (keyS T s (m + 1)).1 :: ownA s4 (keyS T s (m + 1)).2 :: R) := h4
    exact ⟨⟨rfl, rfl, rfl, rfl, m + 1, rfl, by omega, h4.swap⟩, by (try dsimp only); omega⟩
  · have hm3 : m = 3 := by omega
    subst hm3
    have kin := keyS_in hs (T := T) (by omega) (m := 3) (by omega)
    have kgl := kg.len
    unfold wrapT
    dsimp only
    generalize (keyS T s 3).2 = K at h1 kl kin ⊢
    generalize (keyS T s 3).1 = T1 at h1 kg kin kgl ⊢
    unfold trystref22_Wrap.c3 trystref22_Wrap.l2
    have hskl : sk.len = 3 := by rw [h1.numLen 0 rfl, kl]
    refine ⟨fun t w' => ∃ m : Nat, t.1 = (layS T1 pubs K s x m).2 ∧ m ≤ 3 ∧ t.2 = 2 - (m : Int) ∧ At W w' (pgT p (layS T1 pubs K s x m).1 :: ownA sk K :: R), fun t _ => (t.2 + 1).toNat, ⟨0, rfl, by omega, by simp, h1.swap⟩, ?_⟩
    rintro ⟨_, _⟩ w6 ⟨m, rfl, hm, rfl, h6⟩
    show trystref22_Wrap.b2 _ _ (some p) sp s sk (layS T1 pubs K s x m).2 (2 - (m : Int)) w6
    unfold trystref22_Wrap.b2
    refine cond_d (fun hge0 => ?_) fun hlt0 => ?_
    · have hm3 : m < 3 := by omega
      have e2m : (2 - (m : Int)) = ((2 - m : Nat) : Int) := by omega
      have e60 : IntKind.i64.wrap (60 + ((2 - m : Nat) : Int)) = ((60 + (2 - m) : Nat) : Int) := by rw [w64 (by omega)]; omega
      have h6' : At W w6.drew (pgT p (layS T1 pubs K s x m).1 :: ownA sk K :: R) := h6.drew
      rw [e2m]
      obtain ⟨q, hq, _⟩ := (hI [_, _] w6.drew h6').get (i := ((2 - m : Nat) : Int)) (by omega) (by omega)
      obtain ⟨q', hq', _⟩ := h6'.num 1 rfl (i := 2 - m) (by omega)
      have cells : ∀ {y : World} {T' : List Tm}, At W y (pgT p T' :: ownA sk K :: R) → y.cell? (q.add (2 - m)) = some (.int .i64 (pubs[2 - m]?.getD 0)) ∧ y.cell? (q'.add (2 - m)) = some (.int .i64 (K[2 - m])) := by
        intro y T' hy
        obtain ⟨q1, hq1, hc1⟩ := (hI [_, _] y hy).get (i := ((2 - m : Nat) : Int)) (by omega) (by omega)
        obtain ⟨q2, hq2, hc2⟩ := hy.num 1 rfl (i := 2 - m) (by omega)
        rw [hq] at hq1
        rw [hq'] at hq2
        obtain rfl := Option.some.inj hq1
        obtain rfl := Option.some.inj hq2
        rw [Int.toNat_natCast] at hc1
        exact ⟨hc1, hc2⟩
      refine ⟨fun y => y.cell? (q.add (2 - m)) = some (.int .i64 (pubs[2 - m]?.getD 0)) ∧ y.cell? (q'.add (2 - m)) = some (.int .i64 (K[2 - m])), cells h6', by omega, by omega, q, hq, _, fun y hy => hy.1, by omega, by omega, q', hq', _, fun y hy => by rw [Int.toNat_natCast]; exact hy.2, ?_⟩
      rw [e60]
      refine (rkdf s ((60 + (2 - m) : Nat) : Int) h6').mono ?_
      rintro _ w8 ⟨rfl, h8⟩
      refine ⟨_, rfl, cells h8, ?_⟩
      have gw : (put (layS T1 pubs K s x m).1 ⟨4, ((60 + (2 - m) : Nat) : Int), [s]⟩) = withS (layS T1 pubs K s x m).1 s m := rfl
      rw [gw] at h8 ⊢
      intro w9
      have eK : K[2 - m] = K[2 - m]?.getD 0 := by rw [List.getElem?_eq_getElem (by omega)]; rfl
      refine (rmk 7 0 [pubs[2 - m]?.getD 0, (withS (layS T1 pubs K s x m).1 s m).2.1, (layS T1 pubs K s x m).2, K[2 - m]] h8 (by simp)).mono ?_
      rintro _ w10 ⟨rfl, h10⟩
      rw [eK] at h10 ⊢
      refine ⟨_, rfl, ?_⟩
      dsimp only
      rw [w64 (n := ((2 - m : Nat) : Int) - 1) (by omega)]
      exact ⟨⟨rfl, rfl, rfl, rfl, m + 1, rfl, by omega, by omega, h10⟩, by (try dsimp only); omega⟩
    · have hm3 : m = 3 := by omega
      subst hm3
      unfold trystref22_Wrap.c1
      exact ⟨sk, rfl, h6.swap⟩

end

end Go.Proofs.YtoclhecldmahiaaDoor

/-
  An onion as it stands in an arena; what is peeled of it, what is sealed back.
-/
set_option linter.unusedVariables false
set_option linter.unusedSimpArgs false
namespace Go.Proofs.YtoclhecldmahiaaDoor
open Go.Lf Go.RowKit

theorem tmAt_of {T : List Tm} {o : Nat} {t : Tm} (h : T[o]? = some t) : tmAt T (o : Int) = t := by unfold tmAt; rw [Int.toNat_natCast, h]; rfl

theorem unbox_hit {T : List Tm} {o p : Nat} {w x k s : Int} (ho : T[o]? = some ⟨7, 0, [(p : Int), w, x, k]⟩) (hp : T[p]? = some ⟨5, 0, [s]⟩) (hs : inT T s) : peelT T s o = (x, k, 0) := by
  have : unboxT T o s = ([x, k], 0) := by
    unfold unboxT
    rw [if_neg (fun h => h ⟨inT_of ho, hs⟩), tmAt_of ho]
    show (if (7 : Int) ≠ 7 then _ else if (tmAt T (p : Int)).kind ≠ 5 then _ else if arg0 (tmAt T (p : Int)) ≠ s then _ else _) = _
    rw [tmAt_of hp]
    rw [if_neg (fun h => h rfl), if_neg (fun h => h rfl), if_neg (fun h => h rfl)]
    rfl
  unfold peelT
  rw [this]
  rfl
theorem unbox_miss {T : List Tm} {o p : Nat} {w x k s s' : Int} (ho : T[o]? = some ⟨7, 0, [(p : Int), w, x, k]⟩) (hp : T[p]? = some ⟨5, 0, [s]⟩) (hs : inT T s') (hne : s' ≠ s) : peelT T s' o = (0, 0, 3) := by
  have : unboxT T o s' = ([], 3) := by
    unfold unboxT
    rw [if_neg (fun h => h ⟨inT_of ho, hs⟩), tmAt_of ho]
    show (if (7 : Int) ≠ 7 then _ else if (tmAt T (p : Int)).kind ≠ 5 then _ else if arg0 (tmAt T (p : Int)) ≠ s' then _ else _) = _
    rw [tmAt_of hp]
    rw [if_neg (fun h => h rfl), if_neg (fun h => h rfl), if_pos]
    intro h
    exact hne h.symm
  unfold peelT
  rw [this]
  rfl
theorem open_hit {T : List Tm} {o : Nat} {k x : Int} (ho : T[o]? = some ⟨6, 0, [k, x]⟩) (hk : inT T k) : openT T o k = ([x], 0) := by
  unfold openT
  rw [if_neg (fun h => h ⟨inT_of ho, hk⟩), tmAt_of ho]
  show (if (6 : Int) ≠ 6 then _ else if k ≠ k then _ else _) = _
  rw [if_neg (by decide), if_neg (fun h => h rfl)]
  rfl

/-- an onion's layers, as they stand in an arena -/
structure OnionIn (T : List Tm) (pubs keys : List Int) (s : Int) (X : Nat → Int) : Prop where
  kl : keys.length = 3
  kin : ∀ k ∈ keys, inT T k
  xin : ∀ m, m ≤ 3 → inT T (X m)
  lay : ∀ j, j < 3 → ∃ o w : Nat, X (j + 1) = o ∧ T[o]? = some ⟨7, 0, [pubs[2 - j]?.getD 0, (w : Int), X j, keys[2 - j]?.getD 0]⟩ ∧ T[w]? = some ⟨4, ((60 + (2 - j) : Nat) : Int), [s]⟩
  key : ∀ (j : Nat) (k : Int), keys[j]? = some k → ∃ n : Nat, k = n ∧ T[n]? = some ⟨4, ((50 + j : Nat) : Int), [s]⟩

theorem OnionIn.mono {T T' : List Tm} (he : Ext T T') {pubs keys : List Int} {s : Int} {X : Nat → Int} (h : OnionIn T pubs keys s X) : OnionIn T' pubs keys s X :=
  ⟨h.kl, fun k hk => he.inT (h.kin k hk), fun m hm => he.inT (h.xin m hm), fun j hj => by obtain ⟨o, w, e1, e2, e3⟩ := h.lay j hj; exact ⟨o, w, e1, he _ _ e2, he _ _ e3⟩, fun j k hk => by obtain ⟨n, e, hn⟩ := h.key j k hk; exact ⟨n, e, he _ _ hn⟩⟩

/-- what is wrapped is so -/
theorem wrap_in {T : List Tm} {pubs : List Int} {s x : Int} (he : wrapErr T pubs s x = 0) (hl : T.length ≤ 900000) : ∃ X : Nat → Int, X 0 = x ∧ X 3 = (wrapT T pubs s x).2.1 ∧ OnionIn (wrapT T pubs s x).1 pubs (wrapT T pubs s x).2.2 s X ∧ Grown T (wrapT T pubs s x).1 9 := by
  obtain ⟨hp3, ht, hs, hx, _⟩ := wrapErr0.1 he
  obtain ⟨kg, kl, kk⟩ := keyS_good hs (by omega) 3 (by omega)
  have kin := keyS_in hs (T := T) (by omega) (m := 3) (by omega)
  have kgl := kg.len
  have good := layS_good (T := (keyS T s 3).1) (pubs := pubs) (keys := (keyS T s 3).2) (s := s) (x := x) (kg.ext.inT hs) (kg.ext.inT hx) (fun y hy => kg.ext.inT (ht y hy)) kin hp3 kl (by omega)
  obtain ⟨g1, g2, g3⟩ := good 3 (by omega)
  have in0 : ∀ m, m ≤ 3 → inT (layS (keyS T s 3).1 pubs (keyS T s 3).2 s x 3).1 (layS (keyS T s 3).1 pubs (keyS T s 3).2 s x m).2 := by
    intro m hm
    match m, hm with
    | 0, _ => exact g1.ext.inT (kg.ext.inT hx)
    | m + 1, hm =>
      obtain ⟨o, w, e1, e2, e3⟩ := g3 m (by omega)
      rw [e1]; exact inT_of e2
  refine ⟨fun m => (layS (keyS T s 3).1 pubs (keyS T s 3).2 s x m).2, rfl, rfl, ⟨kl, fun k hk => g1.ext.inT (kin k hk), in0, fun j hj => ?_, fun j k hk => ?_⟩, (kg.trans g1).mono (by omega)⟩
  · obtain ⟨o, w, e1, e2, e3⟩ := g3 j hj
    exact ⟨o, w, e1, e2, e3⟩
  · obtain ⟨n, e, hn⟩ := kk j k hk
    exact ⟨n, e, g1.ext _ _ hn⟩

theorem err_seal {T : List Tm} {k x : Int} (hk : inT T k) (hx : inT T x) : errOf T ⟨6, 0, [k, x]⟩ = 0 :=
  errOk (by simp) (by simp) (.inr rfl) (by simp [least]) (by simp [mostOf]) (by simp; exact ⟨hk, hx⟩)

/-- so many servers' secrets, and their public keys -/
structure SrvIn (T : List Tm) (base : Nat) (S P : List Nat) (i : Nat) : Prop where
  sl : S.length = i
  pl : P.length = i
  sat : ∀ (j s : Nat), S[j]? = some s → T[s]? = some ⟨1, ((base + j : Nat) : Int), []⟩
  pat : ∀ (j s p : Nat), S[j]? = some s → P[j]? = some p → T[p]? = some ⟨5, 0, [(s : Int)]⟩
theorem SrvIn.mono {T T' : List Tm} (he : Ext T T') {base : Nat} {S P : List Nat} {i : Nat} (h : SrvIn T base S P i) : SrvIn T' base S P i :=
  ⟨h.sl, h.pl, fun j s hs => he _ _ (h.sat j s hs), fun j s p hs hp => he _ _ (h.pat j s p hs hp)⟩
theorem SrvIn.nil (T : List Tm) (base : Nat) : SrvIn T base [] [] 0 := ⟨rfl, rfl, by simp, by simp⟩
theorem SrvIn.add {T : List Tm} {base : Nat} {S P : List Nat} {i x y : Nat} (h : SrvIn T base S P i) (hx : T[x]? = some ⟨1, ((base + i : Nat) : Int), []⟩) (hy : T[y]? = some ⟨5, 0, [(x : Int)]⟩) : SrvIn T base (S ++ [x]) (P ++ [y]) (i + 1) := by
  have hS := h.sl
  have hP := h.pl
  refine ⟨by simp [hS], by simp [hP], fun j s hj => ?_, fun j s p hj hp => ?_⟩
  · rw [List.getElem?_append] at hj
    split at hj
    · exact h.sat j s hj
    · have := (List.getElem?_eq_some_iff.1 hj).1
      simp at this
      have e : j = i := by omega
      subst e
      rw [hS, Nat.sub_self] at hj
      simp at hj
      subst hj
      exact hx
  · rw [List.getElem?_append] at hj hp
    split at hj
    · rw [if_pos (by omega)] at hp
      exact h.pat j s p hj hp
    · have := (List.getElem?_eq_some_iff.1 hj).1
      simp at this
      have e : j = i := by omega
      subst e
      rw [if_neg (by omega)] at hp
      rw [hS, Nat.sub_self] at hj
      rw [hP, Nat.sub_self] at hp
      simp at hj hp
      subst hj hp
      exact hy
theorem SrvIn.pubs {T : List Tm} {base : Nat} {S P : List Nat} (h : SrvIn T base S P 3) : (toI P).length = 3 ∧ ∀ y ∈ toI P, inT T y ∧ (tmAt T y).kind = 5 := by
  refine ⟨by rw [toI_len, h.pl], fun y hy => ?_⟩
  unfold toI at hy
  obtain ⟨p, hp, rfl⟩ := List.mem_map.1 hy
  obtain ⟨j, hj⟩ := List.getElem?_of_mem hp
  have hjl := (List.getElem?_eq_some_iff.1 hj).1
  have hS := h.sl
  have hP := h.pl
  have hps := h.pat j S[j] p (List.getElem?_eq_getElem (by omega)) hj
  exact ⟨inT_of hps, by rw [tmAt_of hps]⟩
/-- a server peels its layer -/
theorem SrvIn.peel {T : List Tm} {base : Nat} {S P : List Nat} (h : SrvIn T base S P 3) {K : List Int} {s : Int} {X : Nat → Int} (ho : OnionIn T (toI P) K s X) {i : Nat} (hi : i < 3) :
    ∃ x : Nat, S[i]? = some x ∧ peelT T x (X (3 - i)) = (X (2 - i), K[i]?.getD 0, 0) ∧ ∀ y, inT T y → y ≠ x → peelT T y (X (3 - i)) = (0, 0, 3) := by
  have hS := h.sl
  have hP := h.pl
  have hiS : i < S.length := by omega
  obtain ⟨o, w', e1, e2, _⟩ := ho.lay (2 - i) (by omega)
  rw [show 2 - i + 1 = 3 - i by omega] at e1
  rw [show 2 - (2 - i) = i by omega] at e2
  have hp := h.pat i S[i] P[i] (List.getElem?_eq_getElem hiS) (List.getElem?_eq_getElem (by omega))
  have epi : (toI P)[i]?.getD 0 = ((P[i] : Nat) : Int) := by unfold toI; rw [List.getElem?_map, List.getElem?_eq_getElem (by omega)]; rfl
  rw [epi] at e2
  refine ⟨S[i], List.getElem?_eq_getElem hiS, ?_, fun y hy hne => ?_⟩
  · rw [e1, unbox_hit e2 hp (inT_of (h.sat i _ (List.getElem?_eq_getElem hiS)))]
  · rw [e1, unbox_miss e2 hp hy hne]

end Go.Proofs.YtoclhecldmahiaaDoor
