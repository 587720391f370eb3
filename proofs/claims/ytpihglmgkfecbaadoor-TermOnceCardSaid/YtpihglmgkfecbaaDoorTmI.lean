/-
  Terms: two arenas to which the same is told are the same.
-/
import Derived.Test.YtpihglmgkfecbaaDoorTmH
set_option linter.unusedVariables false
set_option linter.unusedSimpArgs false
namespace Go.Proofs.YtpihglmgkfecbaaDoor
open Go.Lf Go.RowKit

theorem Sep.mid {B : Nat} {w : World} {L R : List Asn} {A : Asn} (h : Sep B w (L ++ A :: R)) : Sep B w (L ++ R) := (h.perm List.perm_middle).drop

set_option maxRecDepth 100000 in
theorem two_spec {W : World} (hT : PT W.heap.size W) {s o : Sl} {l m : List Stp} (h : Stps W s l) (h' : Stps W o m) :
    CallsV Tryd.prog n_trystlaw10_TermTwo #[.slice s.a s.len s.cap, .slice o.a o.len o.cap] W fun v w' => v = .bool true ∧ Below W.heap.size W w' := by
  refine trystlaw10_TermTwo.lift ?_
  unfold trystlaw10_TermTwo.main
  refine (heavy_spec h).mono ?_
  rintro _ _ ⟨rfl, rfl⟩
  refine ⟨_, rfl, cond_c (fun _ => ⟨rfl, Below.refl _ _⟩) fun hh => ?_⟩
  refine (heavy_spec h').mono ?_
  rintro _ _ ⟨rfl, rfl⟩
  refine ⟨_, rfl, cond_c (fun _ => ⟨rfl, Below.refl _ _⟩) fun hh' => ?_⟩
  obtain ⟨hl6, hlight⟩ := light hh
  obtain ⟨hl6', hlight'⟩ := light hh'
  have hlen := h.len
  have hlen' := h'.len
  obtain ⟨B, hBe⟩ : ∃ B, B = W.heap.size := ⟨_, rfl⟩
  have hS0 : Sep B W [] := Sep.nil (by rw [hBe]; exact Nat.le_refl _)
  rw [← hBe] at hT ⊢
  unfold trystlaw10_TermTwo.c6
  refine (new_spec hS0).mono ?_
  rintro _ w1 ⟨c, rfl, h1, hb1⟩
  refine ⟨_, rfl, (new_spec h1).mono ?_⟩
  rintro _ w2 ⟨b, rfl, h2, hb2⟩
  refine ⟨_, rfl, (new_spec h2).mono ?_⟩
  rintro _ w3 ⟨a, rfl, h3, hb3⟩
  refine ⟨_, rfl, cond_f' rfl (cond_f' rfl (cond_f' rfl ?_))⟩
  have hB3 := (hb1.trans hb2).trans hb3
  generalize hRR : (fun (v : Value) (w' : World) => v = .bool true ∧ Below B W w') = RR
  unfold trystlaw10_TermTwo.c5 trystlaw10_TermTwo.l2
  have h3' : Sep B w3 [arA c [], arA b [], arA a []] := h3.perm ((List.Perm.cons _ (List.Perm.swap _ _ _)).trans ((List.Perm.swap _ _ _).trans (List.Perm.cons _ (List.Perm.swap _ _ _))))
  refine ⟨fun t w' => ∃ k : Nat, t = k ∧ k ≤ l.length ∧ k ≤ 150 ∧ ∃ Na Nb Nc, terms Nb = terms Na ∧ Sep B w' [arA c Na, arA b Nb, arA a Nc] ∧ Below B W w', fun t _ => l.length - t.toNat, ⟨0, rfl, Nat.zero_le _, Nat.zero_le _, [], [], [], rfl, h3', hB3⟩, ?_⟩
  rintro _ w4 ⟨k, rfl, hk, hk2, Na, Nb, Nc, hN, h4, hB4⟩
  have fin : trystlaw10_TermTwo.c1 RR (some c) (some b) w4 := by
    unfold trystlaw10_TermTwo.c1
    obtain ⟨xa, ca, hca⟩ := arLen h4
    refine (len_spec hca).mono ?_
    rintro _ _ ⟨rfl, rfl⟩
    obtain ⟨xb, cb, hcb⟩ := arLen h4.swap
    refine ⟨_, rfl, (len_spec hcb).mono ?_⟩
    rintro _ _ ⟨rfl, rfl⟩
    refine ⟨_, rfl, cond_e (fun _ => ?_) fun hne => absurd (by rw [hN]) hne⟩
    refine (wakes_spec h4 (hT.on hB4)).mono ?_
    rintro _ w5 ⟨rfl, h5, hb5⟩
    refine ⟨_, rfl, ?_⟩
    rw [← hRR]
    exact ⟨rfl, hB4.trans hb5⟩
  unfold trystlaw10_TermTwo.b2
  refine cond_d (fun hlt => ?_) fun hge => fin
  refine cond_d (p := ((k : Nat) : Int) < 150) (fun h150 => ?_) fun h150 => fin
  obtain ⟨p, x, sx, hp, hx, c0, c1, c2, c3, hI, hn⟩ := h.get (i := (k : Int)) (by omega) hlt
  rw [Int.toNat_natCast] at hx
  have hxl := hlight k x (by omega) hx
  have hsl : ∀ n, (someI x.args n).length = x.args.length := fun n => by simp [someI]
  have here : ∀ {w' : World} {q : Addr} {v : Value}, Below B W w' → W.cell? q = some v → w'.cell? q = some v := fun hb hc => Below.here (by rw [← hBe]; exact hb) hc
  have keepI : ∀ {w' : World} {t : Sl} {ys : List Int}, Below B W w' → Ints .i64 W t ys → Ints .i64 w' t ys := fun hb hc => hc.keep (by rw [← hBe]; exact hb)
  unfold trystlaw10_TermTwo.c4
  have h5 := h4.drew
  have hB5 := hB4.trans ((Same.drew w4).below B)
  refine ⟨fun y => Below B W y, hB5, by omega, hlt, p, hp, _, fun y hy => here hy c0, by omega, hlt, p, hp, _, fun y hy => here hy c1, by omega, hlt, p, hp, _, _, _, fun y hy => here hy c2, ?_⟩
  obtain ⟨xa, ca, hca⟩ := arLen h5
  refine (len_spec hca).mono ?_
  rintro _ _ ⟨rfl, rfl⟩
  refine ⟨_, rfl, hB5, ?_⟩
  refine (some_spec (keepI hB5 hI) (by omega) _).mono ?_
  rintro _ w6 ⟨s6, rfl, o6, hb6⟩
  have h6 := Sep.row h5 o6 hb6
  have hB6 := hB5.trans (hb6.mono h5.le)
  refine ⟨_, _, _, rfl, hB6, ?_⟩
  refine (make_spec (t := ⟨x.kind, x.n, someI x.args ((terms Na).length : Int)⟩) (s := s6) (R := [ownA s6 (someI x.args ((terms Na).length : Int)), arA b Nb, arA a Nc]) (h6.front 1 rfl) (hT.on hB6) hn (fun X w' hs _ => rowInts 1 rfl hs (by rw [hsl]; omega))).mono ?_
  rintro _ w7 ⟨m7, rfl, e7, h7, hb7⟩
  have hB7 := hB6.trans hb7
  have h7 : Sep B w7 [arA c (Na ++ m7), arA b Nb, arA a Nc] := Sep.mid (L := [arA c (Na ++ m7)]) h7
  -- the other
  have other : ∀ (w8 : World) (Nc' : Nds), Sep B w8 [arA c (Na ++ m7), arA b Nb, arA a Nc'] → Below B W w8 → trystlaw10_TermTwo.c3 RR (fun l0' other1' a5' b6' c7' i8' w' => (l0' = s ∧ other1' = o ∧ a5' = some c ∧ b6' = some b ∧ c7' = some a ∧ ∃ k : Nat, i8' = k ∧ k ≤ l.length ∧ k ≤ 150 ∧ ∃ Na Nb Nc, terms Nb = terms Na ∧ Sep B w' [arA c Na, arA b Nb, arA a Nc] ∧ Below B W w') ∧ l.length - i8'.toNat < l.length - ((k : Nat) : Int).toNat) s o (some c) (some b) (some a) ((k : Nat) : Int)
      (put (terms Na) ⟨x.kind, x.n, someI x.args ((terms Na).length : Int)⟩).2.1 (put (terms Na) ⟨x.kind, x.n, someI x.args ((terms Na).length : Int)⟩).2.2 w8 := by
    intro w8 Nc' h8 hB8
    unfold trystlaw10_TermTwo.c3
    have h9 := h8.drew
    have hB9 := hB8.trans ((Same.drew w8).below B)
    refine ⟨fun y => Below B W y, hB9, by omega, hlt, p, hp, _, fun y hy => here hy c0, by omega, hlt, p, hp, _, fun y hy => here hy c1, by omega, hlt, p, hp, _, _, _, fun y hy => here hy c2, ?_⟩
    obtain ⟨xb, cb, hcb⟩ := arLen h9.swap
    refine (len_spec hcb).mono ?_
    rintro _ _ ⟨rfl, rfl⟩
    rw [hN]
    refine ⟨_, rfl, hB9, ?_⟩
    refine (some_spec (keepI hB9 hI) (by omega) _).mono ?_
    rintro _ w10 ⟨s10, rfl, o10, hb10⟩
    have h10 := Sep.row h9 o10 hb10
    have hB10 := hB9.trans (hb10.mono h9.le)
    refine ⟨_, _, _, rfl, hB10, ?_⟩
    refine (make_spec (t := ⟨x.kind, x.n, someI x.args ((terms Na).length : Int)⟩) (s := s10) (R := [ownA s10 (someI x.args ((terms Na).length : Int)), arA c (Na ++ m7), arA a Nc']) (h10.front 2 rfl) (hT.on hB10) hn (fun X w' hs _ => rowInts 1 rfl hs (by rw [hsl]; omega))).mono ?_
    rintro _ w11 ⟨m11, rfl, e11, h11, hb11⟩
    have hB11 := hB10.trans hb11
    have h11 : Sep B w11 [arA b (Nb ++ m11), arA c (Na ++ m7), arA a Nc'] := Sep.mid (L := [arA b (Nb ++ m11)]) h11
    rw [hN] at e11 ⊢
    refine ⟨_, _, rfl, cond_n (fun h => absurd rfl h) fun _ => cond_n (fun h => absurd rfl h) fun _ => ?_⟩
    rw [inc (by omega)]
    exact ⟨⟨rfl, rfl, rfl, rfl, rfl, k + 1, rfl, by omega, by omega, Na ++ m7, Nb ++ m11, Nc', by rw [e7, e11], h11.swap, hB11⟩, by (try dsimp only); omega⟩
  refine ⟨_, _, rfl, cond_d (fun hlt2 => ?_) fun _ => other w7 Nc h7 hB7⟩
  obtain ⟨p', y, sy, hp', hy, d0, d1, d2, d3, hJ, hyn⟩ := h'.get (i := (k : Int)) (by omega) hlt2
  rw [Int.toNat_natCast] at hy
  have hyl := hlight' k y (by omega) hy
  have hsl' : ∀ n, (someI y.args n).length = y.args.length := fun n => by simp [someI]
  have h8 := h7.drew
  have hB8 := hB7.trans ((Same.drew w7).below B)
  refine ⟨fun y => Below B W y, hB8, by omega, hlt2, p', hp', _, fun y hy => here hy d0, by omega, hlt2, p', hp', _, fun y hy => here hy d1, by omega, hlt2, p', hp', _, _, _, fun y hy => here hy d2, ?_⟩
  have h8f : Sep B w7.drew [arA a Nc, arA c (Na ++ m7), arA b Nb] := h8.front 2 rfl
  obtain ⟨xb, cb, hcb⟩ := arLen h8f
  refine (len_spec hcb).mono ?_
  rintro _ _ ⟨rfl, rfl⟩
  refine ⟨_, rfl, hB8, ?_⟩
  refine (some_spec (keepI hB8 hJ) (by omega) _).mono ?_
  rintro _ w9 ⟨s9, rfl, o9, hb9⟩
  have h9 := Sep.row h8f o9 hb9
  have hB9 := hB8.trans (hb9.mono h8.le)
  refine ⟨_, _, _, rfl, hB9, ?_⟩
  refine (make_spec (t := ⟨y.kind, y.n, someI y.args ((terms Nc).length : Int)⟩) (s := s9) (R := [ownA s9 (someI y.args ((terms Nc).length : Int)), arA c (Na ++ m7), arA b Nb]) (h9.front 1 rfl) (hT.on hB9) hyn (fun X w' hs _ => rowInts 1 rfl hs (by rw [hsl']; omega))).mono ?_
  rintro _ w10 ⟨m10, rfl, e10, h10, hb10⟩
  have hB10 := hB9.trans hb10
  have h10 : Sep B w10 [arA a (Nc ++ m10), arA c (Na ++ m7), arA b Nb] := Sep.mid (L := [arA a (Nc ++ m10)]) h10
  refine ⟨_, _, rfl, other w10 (Nc ++ m10) ?_ hB10⟩
  exact (h10.perm ((List.Perm.swap _ _ _).trans (List.Perm.cons _ (List.Perm.swap _ _ _))))

end Go.Proofs.YtpihglmgkfecbaaDoor
