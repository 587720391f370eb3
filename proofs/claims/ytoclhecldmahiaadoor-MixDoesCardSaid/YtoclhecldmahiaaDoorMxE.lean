/-
  Of those that come to one drop in a round just two are given one another's; one alone, and three or more, are given nothing; drops have nothing to do with one another.
-/
import Derived.Test.YtoclhecldmahiaaDoorMxA
import Derived.Test.YtoclhecldmahiaaDoorM1Fns
set_option linter.unusedVariables false
set_option linter.unusedVariables false
set_option linter.unusedSimpArgs false
namespace Go.Proofs.YtoclhecldmahiaaDoor
open Go.Lf Go.RowKit

theorem word_there {T : List Tm} (hT : TOk T) {x : Nat} (h : T[x]? = some ⟨2, 0, []⟩) : wordT T = (T, (x : Int), 0) := put_there hT h (err_word (by omega))
theorem rqOf_list {T : List Tm} {x c : Nat} {n : Int} {rest : List Int} (hx : T[x]? = some ⟨9, 0, (c : Int) :: rest⟩) (hc : T[c]? = some ⟨2, n, []⟩) (hl : 1 ≤ rest.length) : rqOf T x = rqWord n rest := by
  unfold rqOf
  rw [tmAt_of hx]
  show (if (9 : Int) ≠ 9 then _ else if ((c : Int) :: rest).length < 2 then _ else if (tmAt T (c : Int)).kind ≠ 2 then _ else rqWord (tmAt T (c : Int)).n _) = _
  rw [tmAt_of hc, if_neg (by decide), if_neg (by simp; omega), if_neg (fun h => h rfl)]
  rfl
theorem err_list {T : List Tm} {xs : List Int} (hl : xs.length ≤ 400) (hx : ∀ x ∈ xs, inT T x) : errOf T ⟨9, 0, xs⟩ = 0 := errOk (by simp) (by simp) (.inr rfl) (by simp [least]) (by simpa [mostOf] using hl) hx
theorem put_list {T : List Tm} {xs : List Int} (hl : xs.length ≤ 400) (hx : ∀ x ∈ xs, inT T x) (hT : T.length ≤ 1000000) : ∃ y : Nat, (put T ⟨9, 0, xs⟩).2.1 = y ∧ (put T ⟨9, 0, xs⟩).2.2 = 0 ∧ (put T ⟨9, 0, xs⟩).1[y]? = some ⟨9, 0, xs⟩ ∧ Grown T (put T ⟨9, 0, xs⟩).1 1 := by
  obtain ⟨y, h1, h2, h3⟩ := putAt (err_list hl hx) (by omega)
  exact ⟨y, h1, h2, h3, Grown.put _ (by simp)⟩
theorem put_plain' {T : List Tm} {k n : Int} (hk : k = 1 ∨ k = 2) (hn : 0 ≤ n) (hn2 : n ≤ 9223372036854775807) (hl : T.length ≤ 1000000) : ∃ x : Nat, (put T ⟨k, n, []⟩).2.1 = x ∧ (put T ⟨k, n, []⟩).2.2 = 0 ∧ (put T ⟨k, n, []⟩).1[x]? = some ⟨k, n, []⟩ ∧ Grown T (put T ⟨k, n, []⟩).1 1 := by
  have he : errOf T ⟨k, n, []⟩ = 0 := errOk (by simp; omega) hn (.inl (by rcases hk with rfl | rfl <;> simp [numbered])) (by rcases hk with rfl | rfl <;> simp [least]) (by simp) (by simp)
  obtain ⟨x, h1, h2, h3⟩ := putAt he (by omega)
  exact ⟨x, h1, h2, h3, Grown.put _ hn2⟩

theorem wakes24 {W w : World} {R : List Asn} (h : At W w R) : CallsV Tryd.prog n_trystlaw24_wakes #[] w fun v w' => v = .bool true ∧ At W w' R := by
  refine trystlaw24_wakes.lift ?_
  unfold trystlaw24_wakes.main
  refine (new_at h).mono ?_
  rintro _ w1 ⟨p, rfl, h1⟩
  refine ⟨_, rfl, cond_f' rfl ?_⟩
  refine (mk0 2 73 h1 (by omega)).mono ?_
  rintro _ w2 ⟨rfl, h2⟩
  have p1 : put [] ⟨2, 73, []⟩ = ([⟨2, 73, []⟩], 0, 0) := by decide
  simp -zeta only [p1] at h2 ⊢
  refine ⟨_, _, rfl, (mk0 1 1 h2 (by omega)).mono ?_⟩
  rintro _ w3 ⟨rfl, h3⟩
  have p2 : put [⟨2, 73, []⟩] ⟨1, 1, []⟩ = ([⟨2, 73, []⟩, ⟨1, 1, []⟩], 1, 0) := by decide
  simp -zeta only [p2] at h3 ⊢
  refine ⟨_, _, rfl, (mk0 1 2 h3 (by omega)).mono ?_⟩
  rintro _ w4 ⟨rfl, h4⟩
  have p3 : put [⟨2, 73, []⟩, ⟨1, 1, []⟩] ⟨1, 2, []⟩ = ([⟨2, 73, []⟩, ⟨1, 1, []⟩, ⟨1, 2, []⟩], 2, 0) := by decide
  simp -zeta only [p3] at h4 ⊢
  refine ⟨_, _, rfl, (mk0 1 3 h4 (by omega)).mono ?_⟩
  rintro _ w5 ⟨rfl, h5⟩
  have p4 : put [⟨2, 73, []⟩, ⟨1, 1, []⟩, ⟨1, 2, []⟩] ⟨1, 3, []⟩ = ([⟨2, 73, []⟩, ⟨1, 1, []⟩, ⟨1, 2, []⟩, ⟨1, 3, []⟩], 3, 0) := by decide
  simp -zeta only [p4] at h5 ⊢
  refine ⟨_, _, rfl, ?_⟩
  intro w6
  refine (mk 9 0 [0, 1, 2] h5 (by omega) (by simp)).mono ?_
  rintro _ w7 ⟨rfl, h7⟩
  have p5 : put [⟨2, 73, []⟩, ⟨1, 1, []⟩, ⟨1, 2, []⟩, ⟨1, 3, []⟩] ⟨9, 0, [0, 1, 2]⟩ = ([⟨2, 73, []⟩, ⟨1, 1, []⟩, ⟨1, 2, []⟩, ⟨1, 3, []⟩, ⟨9, 0, [0, 1, 2]⟩], 4, 0) := by decide
  simp -zeta only [p5] at h7 ⊢
  refine ⟨_, _, rfl, ?_⟩
  intro w8
  refine (mk 9 0 [0, 1, 3] h7 (by omega) (by simp)).mono ?_
  rintro _ w9 ⟨rfl, h9⟩
  have p6 : put [⟨2, 73, []⟩, ⟨1, 1, []⟩, ⟨1, 2, []⟩, ⟨1, 3, []⟩, ⟨9, 0, [0, 1, 2]⟩] ⟨9, 0, [0, 1, 3]⟩ = ([⟨2, 73, []⟩, ⟨1, 1, []⟩, ⟨1, 2, []⟩, ⟨1, 3, []⟩, ⟨9, 0, [0, 1, 2]⟩, ⟨9, 0, [0, 1, 3]⟩], 5, 0) := by decide
  simp -zeta only [p6] at h9 ⊢
  refine ⟨_, _, rfl, ?_⟩
  intro w10
  have h10 : At W w10 (ownA ⟨some (newA w9), 2, 2⟩ [4, 5] :: arT p [⟨2, 73, []⟩, ⟨1, 1, []⟩, ⟨1, 2, []⟩, ⟨1, 3, []⟩, ⟨9, 0, [0, 1, 2]⟩, ⟨9, 0, [0, 1, 3]⟩] :: R) := h9.row [4, 5] (by simp)
  have e0 : doErr [⟨2, 73, []⟩, ⟨1, 1, []⟩, ⟨1, 2, []⟩, ⟨1, 3, []⟩, ⟨9, 0, [0, 1, 2]⟩, ⟨9, 0, [0, 1, 3]⟩] [] [4, 5] = 0 := by decide +kernel
  have e1 : (doT [⟨2, 73, []⟩, ⟨1, 1, []⟩, ⟨1, 2, []⟩, ⟨1, 3, []⟩, ⟨9, 0, [0, 1, 2]⟩, ⟨9, 0, [0, 1, 3]⟩] [] [4, 5]).2 = [3, 2] := by decide +kernel
  refine (do_at h10.swap (s1 := ⟨none, 0, 0⟩) (rs := []) (s2 := ⟨some (newA w9), 2, 2⟩) (l := [4, 5]) (by simp) (by simp) (by simp) (fun L w' hs => Regs.nil _) (rowsI 0 rfl (by simp))).mono ?_
  rintro _ w11 ⟨t1, t2, rfl, hgood, _⟩
  have h11 := hgood e0
  rw [e1] at h11
  rw [e0]
  have hl := h11.numLen 1 rfl
  have hl : t2.len = 2 := hl
  obtain ⟨q0, hq0, hc0⟩ := h11.num 1 rfl (i := 0) (by simp)
  obtain ⟨q1, hq1, hc1⟩ := h11.num 1 rfl (i := 1) (by simp)
  refine ⟨_, _, _, _, _, _, _, rfl, cond_t rfl (cond_t (by rw [hl]; rfl) ⟨by omega, by omega, q0, hq0, _, hc0, cond_t rfl ⟨by omega, by omega, q1, hq1, _, hc1, rfl, ?_⟩⟩)⟩
  exact h11.drop.drop.drop.drop

/-- all come to drops -/
theorem doS_drops {nw : Int} {Q : List Rq} (h : ∀ j, j < Q.length → (rq Q j).1 = 73) : ∀ k, k ≤ Q.length → doS nw Q [] k = ([], (List.range k).map (metT nw Q)) := by
  intro k
  induction k with
  | zero => exact fun _ => rfl
  | succ k ih =>
    intro hk
    have e := ih (by omega)
    have h73 := h k (by omega)
    show ((ansT nw Q (doS nw Q [] k).1 k).1, (doS nw Q [] k).2 ++ [(ansT nw Q (doS nw Q [] k).1 k).2]) = _
    rw [e]
    have ea : ansT nw Q [] k = ([], metT nw Q k) := by unfold ansT; rw [if_neg (by omega), if_neg (by omega), if_pos h73]
    rw [ea, List.range_succ, List.map_append]
    rfl

def um (x : Int) (m : Int) : Int := Int.tmod (IntKind.u64.wrap x) m
theorem um_in (x : Int) {m : Nat} (hm : 0 < m) : 0 ≤ um x m ∧ um x m < m := by
  unfold um
  have h : 0 ≤ IntKind.u64.wrap x := by
    have := IntKind.wrap_u64 x
    rw [this]
    exact Int.emod_nonneg _ (by decide)
  exact tmod_in h hm

set_option maxRecDepth 100000 in
theorem drops_spec {W : World} (hT : PT W.heap.size W) {s : Sl} {xs : List Int} (hx : IntsW W s xs) :
    CallsV Tryd.prog n_trystlaw24_MixDrops #[.slice s.a s.len s.cap] W fun v w' => v = .bool true ∧ Below W.heap.size W w' := by
  refine trystlaw24_MixDrops.lift ?_
  unfold trystlaw24_MixDrops.main
  have hsl := hx.i.len
  refine cond_d (fun _ => ⟨rfl, Below.refl _ _⟩) fun h60 => ?_
  generalize hRR : (fun (v : Value) (w' : World) => v = .bool true ∧ Below W.heap.size W w') = RR
  refine (new_at (At.start hT)).mono ?_
  rintro _ w1 ⟨p, rfl, h1⟩
  refine ⟨_, rfl, cond_f' rfl ?_⟩
  refine (mk0 2 73 h1 (by omega)).mono ?_
  rintro _ w2 ⟨rfl, h2⟩
  have p1 : put [] ⟨2, 73, []⟩ = ([⟨2, 73, []⟩], 0, 0) := by decide
  rw [p1] at h2 ⊢
  refine ⟨_, _, rfl, (mk0 2 0 h2 (by omega)).mono ?_⟩
  rintro _ w3 ⟨rfl, h3⟩
  have p2 : put [⟨2, 73, []⟩] ⟨2, 0, []⟩ = ([⟨2, 73, []⟩, ⟨2, 0, []⟩], 1, 0) := by decide
  rw [p2] at h3 ⊢
  refine ⟨_, _, rfl, cond_n (fun h => absurd rfl h) fun _ => cond_n (fun h => absurd rfl h) fun _ => ?_⟩
  unfold trystlaw24_MixDrops.c11 trystlaw24_MixDrops.l9
  let dr : Nat → Int := fun i => um (xs[i]?.getD 0) 12
  refine ⟨fun x w' => ∃ (i : Nat) (L C : List Nat) (T : List Tm), x.2.2 = i ∧ i ≤ xs.length ∧ L.length = i ∧ C.length = i ∧ T.length ≤ 2 + 3 * i ∧ T[0]? = some ⟨2, 73, []⟩ ∧ T[1]? = some ⟨2, 0, []⟩ ∧
    (∀ (j l c : Nat), L[j]? = some l → C[j]? = some c → ∃ d : Nat, T[d]? = some ⟨1, dr j, []⟩ ∧ T[l]? = some ⟨9, 0, [((0 : Nat) : Int), (d : Int), (c : Int)]⟩) ∧ At W w' [ownA x.1 (toI L), ownA x.2.1 (toI C), arT p T], fun x _ => xs.length - x.2.2.toNat,
    ⟨0, [], [], _, rfl, by omega, rfl, rfl, by simp, rfl, rfl, by simp, h3.nil.nil⟩, ?_⟩
  clear h1 h2 h3
  rintro ⟨sl, sc, _⟩ w4 ⟨i, L, C, T, rfl, hi, hLl, hCl, hTl, t0, t1, hLC, h4⟩
  show trystlaw24_MixDrops.b9 _ _ s (some p) 0 1 sl sc (i : Int) w4
  have h4 : At W w4 [ownA sl (toI L), ownA sc (toI C), arT p T] := h4
  unfold trystlaw24_MixDrops.b9
  refine cond_d (p := ((i : Nat) : Int) < ((s.len : Nat) : Int)) (fun hlt => ?_) fun hge => ?_
  · have hix : i < xs.length := by omega
    obtain ⟨q, hq, hc⟩ := (h4.ints hx.i).get (i := (i : Int)) (by omega) hlt
    rw [Int.toNat_natCast] at hc
    refine ⟨by omega, hlt, q, hq, _, by rw [Int.toNat_natCast]; exact hc, by decide, ?_⟩
    have hdr := um_in (xs[i]?.getD 0) (m := 12) (by omega)
    have e1 : IntKind.i64.wrap (Int.tmod (IntKind.u64.wrap (xs[i]?.getD 0)) 12) = dr i := by
      show IntKind.i64.wrap (um (xs[i]?.getD 0) 12) = um (xs[i]?.getD 0) 12
      have h12 : ((12 : Nat) : Int) = 12 := rfl
      rw [h12] at hdr
      rw [w64 (by omega)]
    have hdr : 0 ≤ dr i ∧ dr i < 12 := hdr
    rw [e1]
    refine (mk0 1 (dr i) (h4.front 2 rfl) (by omega)).mono ?_
    rintro _ w5 ⟨rfl, h5⟩
    obtain ⟨d, d1, d2, d3, dg⟩ := put_plain' (T := T) (k := 1) (n := dr i) (.inl rfl) hdr.1 (by omega) (by omega)
    have dl := dg.len
    rw [d1, d2]
    generalize (put T ⟨1, dr i, []⟩).1 = T1 at h5 d3 dg dl
    refine ⟨_, _, rfl, ?_⟩
    have e2 : IntKind.i64.wrap (100 + (i : Int)) = ((100 + i : Nat) : Int) := by rw [w64 (by omega)]; omega
    rw [e2]
    refine (mk0 1 ((100 + i : Nat) : Int) h5 (by omega)).mono ?_
    rintro _ w6 ⟨rfl, h6⟩
    obtain ⟨c, c1, c2, c3, cg⟩ := put_plain' (T := T1) (k := 1) (n := ((100 + i : Nat) : Int)) (.inl rfl) (by omega) (by omega) (by omega)
    have cl := cg.len
    rw [c1, c2]
    generalize (put T1 ⟨1, ((100 + i : Nat) : Int), []⟩).1 = T2 at h6 c3 cg cl
    refine ⟨_, _, rfl, ?_⟩
    intro w7
    refine (mk 9 0 [((0 : Nat) : Int), (d : Int), (c : Int)] h6 (by omega) (by simp)).mono ?_
    rintro _ w8 ⟨rfl, h8⟩
    obtain ⟨y, y1, y2, y3, yg⟩ := put_list (T := T2) (xs := [((0 : Nat) : Int), (d : Int), (c : Int)]) (by simp) (by
      intro z hz
      have : z = ((0 : Nat) : Int) ∨ z = (d : Int) ∨ z = (c : Int) := by simpa using hz
      rcases this with rfl | rfl | rfl
      · exact inT_of (cg.ext _ _ (dg.ext _ _ t0))
      · exact inT_of (cg.ext _ _ d3)
      · exact inT_of c3) (by omega)
    have yl := yg.len
    rw [y1, y2]
    generalize (put T2 ⟨9, 0, [((0 : Nat) : Int), (d : Int), (c : Int)]⟩).1 = T3 at h8 y3 yg yl
    refine ⟨_, _, rfl, cond_n (fun h => absurd rfl h) fun _ => cond_n (fun h => absurd rfl h) fun _ => cond_n (fun h => absurd rfl h) fun _ => ?_⟩
    have ext := (dg.ext.trans cg.ext).trans yg.ext
    unfold trystlaw24_MixDrops.c10
    intro w9
    obtain ⟨s10, w10, hr10, h10⟩ := more_at 1 rfl h8 (y : Int) (by rw [toI_len]; omega)
    refine ⟨_, _, _, _, hr10, ?_⟩
    intro w11
    obtain ⟨s12, w12, hr12, h12⟩ := more_at 2 rfl h10 (c : Int) (by rw [toI_len]; omega)
    refine ⟨_, _, _, _, hr12, ?_⟩
    dsimp only
    rw [inc (by omega)]
    have h12 : At W w12 [arT p T3, ownA s10 (toI L ++ [(y : Int)]), ownA s12 (toI C ++ [(c : Int)])] := h12
    refine ⟨⟨rfl, rfl, rfl, rfl, i + 1, L ++ [y], C ++ [c], T3, rfl, by omega, by simp [hLl], by simp [hCl], by omega, ext _ _ t0, ext _ _ t1, ?_, ?_⟩, by (try dsimp only); omega⟩
    · intro j l' c' hl hc'
      rw [List.getElem?_append] at hl hc'
      split at hl
      · rename_i hjl
        rw [if_pos (by omega)] at hc'
        obtain ⟨d', g1, g2⟩ := hLC j l' c' hl hc'
        exact ⟨d', ext _ _ g1, ext _ _ g2⟩
      · have hj := (List.getElem?_eq_some_iff.1 hl).1
        simp at hj
        have e : j = i := by omega
        subst e
        rw [if_neg (by omega)] at hc'
        rw [hLl, Nat.sub_self] at hl
        rw [hCl, Nat.sub_self] at hc'
        simp at hl hc'
        subst hl hc'
        exact ⟨d, yg.ext _ _ (cg.ext _ _ d3), y3⟩
    · rw [toI_app, toI_app]
      exact ((h12.front 2 rfl).front 2 rfl)
  · have hix : i = xs.length := by omega
    subst hix
    unfold trystlaw24_MixDrops.c8
    have hok : TOk T := (h4.front 2 rfl).ok
    have hw := word_there hok t1
    have hin : ∀ x ∈ toI L, inT T x := by
      intro x hx
      unfold toI at hx
      obtain ⟨l, hl, rfl⟩ := List.mem_map.1 hx
      obtain ⟨j, hj⟩ := List.getElem?_of_mem hl
      have hjl := (List.getElem?_eq_some_iff.1 hj).1
      obtain ⟨d, _, g2⟩ := hLC j l C[j] hj (List.getElem?_eq_getElem (by omega))
      exact inT_of g2
    have he0 : doErr T [] (toI L) = 0 := by
      unfold doErr
      rw [if_neg (fun h => h ⟨by simp, hin⟩), if_neg (by rw [toI_len]; omega)]
    obtain ⟨Q, hQ⟩ : ∃ Q, Q = (toI L).map (rqOf T) := ⟨_, rfl⟩
    have hQl : Q.length = xs.length := by rw [hQ, List.length_map, toI_len]; omega
    have hQat : ∀ j, j < xs.length → ∃ (d c : Nat), C[j]? = some c ∧ T[d]? = some ⟨1, dr j, []⟩ ∧ rq Q j = (73, [(d : Int), (c : Int)]) := by
      intro j hj
      have hjL : j < L.length := by omega
      have hjC : j < C.length := by omega
      obtain ⟨d, g1, g2⟩ := hLC j L[j] C[j] (List.getElem?_eq_getElem hjL) (List.getElem?_eq_getElem hjC)
      refine ⟨d, C[j], List.getElem?_eq_getElem hjC, g1, ?_⟩
      have : Q[j]? = some (rqOf T ((L[j] : Nat) : Int)) := by rw [hQ, List.getElem?_map, toI_at hjL]; rfl
      unfold rq
      rw [this, rqOf_list g2 t0 (by simp)]
      rfl
    have h73 : ∀ j, j < Q.length → (rq Q j).1 = 73 := fun j hj => by
      obtain ⟨d, c, _, _, e⟩ := hQat j (by omega)
      rw [e]
    have hdo : doT T [] (toI L) = ([], (List.range xs.length).map (metT 1 Q)) := by
      unfold doT
      rw [hw]
      show doS ((1 : Nat) : Int) ((toI L).map (rqOf T)) [] (toI L).length = _
      rw [← hQ, toI_len, hLl]
      exact doS_drops h73 _ (by omega)
    refine (do_at (h4.front 2 rfl) (s1 := ⟨none, 0, 0⟩) (rs := []) (s2 := sl) (l := toI L) (by simp) (by rw [toI_len]; omega) (by omega) (fun L w' hs => Regs.nil _) (rowsI 0 rfl (by rw [toI_len]; omega))).mono ?_
    rintro _ w5 ⟨u1, u2, rfl, hgood, _⟩
    have h5 := hgood he0
    rw [hdo, hw] at h5
    rw [he0]
    have h5 : At W w5 [regA u1 [], ownA u2 ((List.range xs.length).map (metT 1 Q)), arT p T, ownA sl (toI L), ownA sc (toI C)] := h5
    have hu1 : u1.len = 0 := (h5.regs 0 rfl).len
    have hu2 : u2.len = xs.length := by rw [h5.numLen 1 rfl]; simp
    have hsll : sl.len = xs.length := by rw [h5.numLen 3 rfl, toI_len, hLl]
    have hscl : sc.len = xs.length := by rw [h5.numLen 4 rfl, toI_len, hCl]
    refine ⟨_, _, _, _, _, _, _, rfl, cond_n (fun h => absurd rfl h) fun _ => cond_d (fun h => by rw [hu1] at h; exact absurd h (by decide)) fun _ => cond_n (fun h => absurd (by rw [hu2, hsll]) h) fun _ => ?_⟩
    unfold trystlaw24_MixDrops.c7 trystlaw24_MixDrops.l2
    refine ⟨fun x w' => ∃ i : Nat, x = i ∧ i ≤ xs.length ∧ At W w' [regA u1 [], ownA u2 ((List.range xs.length).map (metT 1 Q)), arT p T, ownA sl (toI L), ownA sc (toI C)], fun x _ => xs.length - x.toNat, ⟨0, rfl, by omega, h5⟩, ?_⟩
    clear h5 h4
    rintro _ w6 ⟨i, rfl, hi, h6⟩
    unfold trystlaw24_MixDrops.b2
    rw [hsll]
    refine cond_d (p := ((i : Nat) : Int) < ((xs.length : Nat) : Int)) (fun hlt => ?_) fun hge => ?_
    · have hix : i < xs.length := by omega
      obtain ⟨di, ci, hci, hdi, eqi⟩ := hQat i hix
      unfold trystlaw24_MixDrops.l5
      refine ⟨fun x w' => ∃ k : Nat, x.2.2 = k ∧ k ≤ xs.length ∧ x.1 = ((metL Q i k).length : Int) ∧ x.2.1 = (metL Q i k).getLast?.getD 1 ∧ At W w' [regA u1 [], ownA u2 ((List.range xs.length).map (metT 1 Q)), arT p T, ownA sl (toI L), ownA sc (toI C)], fun x _ => xs.length - x.2.2.toNat, ⟨0, rfl, by omega, rfl, rfl, h6⟩, ?_⟩
      clear h6
      rintro ⟨_, _, _⟩ w7 ⟨k, rfl, hk, rfl, rfl, h7⟩
      show trystlaw24_MixDrops.b5 _ _ _ s 1 sl sc u2 (i : Int) _ _ (k : Int) w7
      unfold trystlaw24_MixDrops.b5
      rw [hsll]
      have hml := metL_len Q i k
      have skip : ¬ (k ≠ i ∧ (rq Q k).1 = 73 ∧ rqId Q k = rqId Q i) → metL Q i (k + 1) = metL Q i k := fun hn => by rw [metL_succ, if_neg hn]
      refine cond_d (p := ((k : Nat) : Int) < ((xs.length : Nat) : Int)) (fun hlt2 => ?_) fun hge2 => ?_
      · have hkx : k < xs.length := by omega
        obtain ⟨dk, ck, hck, hdk, eqk⟩ := hQat k hkx
        refine cond_n (fun hne => ?_) fun heq => ?_
        · obtain ⟨q1, hq1, hc1⟩ := (h7.ints hx.i).get (i := (k : Int)) (by omega) (by omega)
          obtain ⟨q2, hq2, hc2⟩ := (h7.ints hx.i).get (i := (i : Int)) (by omega) (by omega)
          rw [Int.toNat_natCast] at hc1 hc2
          have hiff : dr k = dr i ↔ rqId Q k = rqId Q i := by
            have ek : rqId Q k = dk := by unfold rqId; rw [eqk]; rfl
            have ei : rqId Q i = di := by unfold rqId; rw [eqi]; rfl
            rw [ek, ei]
            constructor
            · intro e
              rw [e] at hdk
              rw [hok.once _ _ _ hdk hdi]
            · intro e
              have e : dk = di := by omega
              rw [e] at hdk
              have := some_two hdk hdi
              simpa using this
          refine ⟨by omega, by omega, q1, hq1, _, by rw [Int.toNat_natCast]; exact hc1, by decide, by omega, by omega, q2, hq2, _, by rw [Int.toNat_natCast]; exact hc2, by decide, cond_e (fun hd => ?_) fun hd => ?_⟩
          · have hd : dr k = dr i := hd
            have hm : metL Q i (k + 1) = metL Q i k ++ [rqV Q k] := by rw [metL_succ, if_pos ⟨fun e => hne (by rw [e]), h73 k (by omega), hiff.1 hd⟩]
            have hv : rqV Q k = ((ck : Nat) : Int) := by unfold rqV; rw [eqk]; rfl
            have hckl := (List.getElem?_eq_some_iff.1 hck)
            unfold trystlaw24_MixDrops.c6
            obtain ⟨q3, hq3, hc3⟩ := h7.drew.num 4 rfl (i := k) (by rw [toI_len]; omega)
            have e3 : (toI C)[k]'(by rw [toI_len]; omega) = (ck : Int) := by
              have : (toI C)[k]? = some ((ck : Nat) : Int) := by rw [toI_at hckl.1, hckl.2]
              rw [List.getElem?_eq_getElem (by rw [toI_len]; omega)] at this
              exact Option.some.inj this
            rw [e3] at hc3
            refine ⟨by omega, by omega, q3, hq3, _, by rw [Int.toNat_natCast]; exact hc3, ?_⟩
            dsimp only
            rw [inc (by omega), inc (by omega)]
            exact ⟨⟨rfl, rfl, rfl, rfl, rfl, rfl, k + 1, rfl, by omega, by rw [hm, List.length_append]; rfl, by rw [hm, hv]; simp, h7.drew.drew⟩, by (try dsimp only); omega⟩
          · dsimp only
            rw [inc (by omega)]
            have hm := skip (fun h => hd (hiff.2 h.2.2))
            exact ⟨⟨rfl, rfl, rfl, rfl, rfl, rfl, k + 1, rfl, by omega, by rw [hm], by rw [hm], h7.drew⟩, by (try dsimp only); omega⟩
        · dsimp only
          rw [inc (by omega)]
          have hm := skip (fun h => h.1 (by omega))
          exact ⟨⟨rfl, rfl, rfl, rfl, rfl, rfl, k + 1, rfl, by omega, by rw [hm], by rw [hm], h7.drew⟩, by (try dsimp only); omega⟩
      · have hkl : k = Q.length := by omega
        subst hkl
        obtain ⟨q, hq, hc⟩ := h7.num 1 rfl (i := i) (by simp; omega)
        have eout : ((List.range xs.length).map (metT 1 Q))[i]'(by simp; omega) = metT 1 Q i := by simp
        rw [eout] at hc
        have c3 : ∀ other, other = metT 1 Q i → trystlaw24_MixDrops.c3 RR (fun drops0' none6' l8' c9' out18' i19' w' => (drops0' = s ∧ none6' = 1 ∧ l8' = sl ∧ c9' = sc ∧ out18' = u2 ∧ ∃ i : Nat, i19' = i ∧ i ≤ xs.length ∧ At W w' [regA u1 [], ownA u2 ((List.range xs.length).map (metT 1 Q)), arT p T, ownA sl (toI L), ownA sc (toI C)]) ∧ xs.length - i19'.toNat < xs.length - ((i : Nat) : Int).toNat) s 1 sl sc u2 (i : Int) other w7 := by
          rintro _ rfl
          unfold trystlaw24_MixDrops.c3
          refine ⟨by omega, by omega, q, hq, _, by rw [Int.toNat_natCast]; exact hc, cond_n (fun h => absurd rfl h) fun _ => ?_⟩
          dsimp only
          rw [inc (by omega)]
          exact ⟨⟨rfl, rfl, rfl, rfl, rfl, i + 1, rfl, by omega, h7⟩, by omega⟩
        unfold trystlaw24_MixDrops.c4
        refine cond_n (fun hne => c3 _ ?_) fun heq => c3 _ ?_
        · unfold metT; rw [if_neg (by omega)]
        · unfold metT; rw [if_pos (by omega)]
    · unfold trystlaw24_MixDrops.c1
      refine (wakes24 h6).mono ?_
      rintro _ w7 ⟨rfl, h7⟩
      refine ⟨_, rfl, ?_⟩
      rw [← hRR]
      exact ⟨rfl, h7.b⟩

end Go.Proofs.YtoclhecldmahiaaDoor
