/-
  Know: of seals, boxes, signatures, lists, one in the other.
-/
import Derived.Test.YtoclhecldmahiaaDoorKnM
set_option linter.unusedVariables false
set_option linter.unusedVariables false
set_option linter.unusedSimpArgs false
namespace Go.Proofs.YtoclhecldmahiaaDoor
open Go.Lf Go.RowKit

abbrev Bools (w : World) (s : Sl) (bs : List Bool) : Prop := Els 1 BoolC w s bs
theorem bools_get {w : World} {s : Sl} {bs : List Bool} (h : Bools w s bs) {i : Nat} (hi : i < bs.length) : ∃ q, s.a = some q ∧ w.cell? (q.add i) = some (.bool (bs[i]?.getD false)) := by
  obtain ⟨p, cs, hp, _, hc, he⟩ := h.el i _ (List.getElem?_eq_getElem hi)
  have he : cs = [.bool bs[i]] := he
  subst he
  refine ⟨p, hp, ?_⟩
  have := hc 0 _ rfl
  rw [List.getElem?_eq_getElem hi]
  simpa using this
theorem At.bools {W w : World} {L : List Asn} (h : At W w L) {s : Sl} {bs : List Bool} (hb : Bools W s bs) : Bools w s bs := hb.keep BoolC.stab h.b

theorem At.nil {W w : World} {R : List Asn} (h : At W w R) : At W w (ownA ⟨none, 0, 0⟩ [] :: R) := h.go (h.s.rowNil 3 1) (Below.refl _ _)

theorem tmod4 (x : Int) : 0 ≤ Int.tmod (IntKind.u64.wrap x) 4 ∧ Int.tmod (IntKind.u64.wrap x) 4 < 4 := by
  have h0 : 0 ≤ IntKind.u64.wrap x := by rw [IntKind.wrap_u64]; omega
  rw [tmod_nn h0]; omega

theorem put3 {T A : List Tm} {t : Tm} {x e : Int} (h : put T t = (A, x, e)) : (put T t).1 = A ∧ (put T t).2.1 = x ∧ (put T t).2.2 = e := by rw [h]; exact ⟨rfl, rfl, rfl⟩

set_option maxRecDepth 100000 in
theorem nests_spec {W : World} (hT : PT W.heap.size W) {sk sh : Sl} {ks : List Int} {bs : List Bool} (hk : IntsW W sk ks) (hh : Bools W sh bs) :
    CallsV Tryd.prog n_trystlaw11_KnowNests #[.slice sk.a sk.len sk.cap, .slice sh.a sh.len sh.cap] W fun v w' => v = .bool true ∧ Below W.heap.size W w' := by
  refine trystlaw11_KnowNests.lift ?_
  unfold trystlaw11_KnowNests.main
  have hkl := hk.i.len
  have hhl := hh.len
  refine cond_d (fun _ => ⟨rfl, Below.refl _ _⟩) fun hk40 => cond_d (fun _ => ⟨rfl, Below.refl _ _⟩) fun hh100 => ?_
  generalize hRR : (fun (v : Value) (w' : World) => v = .bool true ∧ Below W.heap.size W w') = RR
  unfold trystlaw11_KnowNests.c7
  refine (new_at (At.start hT)).mono ?_
  rintro _ w1 ⟨p, rfl, h1⟩
  refine ⟨_, rfl, cond_f' rfl ?_⟩
  refine (mk0 1 0 h1 (by omega)).mono ?_
  rintro _ w2 ⟨rfl, h2⟩
  have e0 : put [] ⟨1, 0, []⟩ = ([⟨1, 0, []⟩], 0, 0) := by decide
  rw [e0] at h2 ⊢
  refine ⟨_, _, rfl, ?_⟩
  obtain ⟨κ, hκ⟩ : ∃ κ : Nat → Nat, ∀ i, κ i = (Int.tmod (IntKind.u64.wrap (ks[i]?.getD 0)) 4).toNat := ⟨_, fun _ => rfl⟩
  obtain ⟨hv, hhv⟩ : ∃ hv : Nat → Prop, ∀ i, hv i ↔ bs[i]?.getD false = true := ⟨_, fun _ => Iff.rfl⟩
  unfold trystlaw11_KnowNests.l2
  refine ⟨fun x w' => ∃ (j : Nat) (sm : List Nat), x.2.2.2.2 = j ∧ j ≤ ks.length ∧ x.1 = 0 ∧ x.2.1 = ((4 * j : Nat) : Int) ∧ (∀ i, i ∈ sm ↔ ∃ q, q < j ∧ hv q ∧ i = 4 * q + 1) ∧ sm.length ≤ j ∧ (x.2.2.2.1 = true ↔ ∀ q, q < j → needs κ q → hv q) ∧ At W w' [arT p (nests κ j), ownA x.2.2.1 (toI sm)], fun x _ => ks.length - x.2.2.2.2.toNat,
    ⟨0, [], rfl, Nat.zero_le _, rfl, rfl, by simp, by simp, by simp, h2.nil.swap⟩, ?_⟩
  rintro ⟨_, _, s3, al, _⟩ w3 ⟨j, sm, hj1, hj, he7, hin8, hsm, hsl, hal, h3⟩
  simp only at hj1 he7 hin8 hal h3
  subst hj1 he7 hin8
  show trystlaw11_KnowNests.b2 RR _ sk sh (some p) 0 0 ((4 * j : Nat) : Int) s3 al (j : Int) w3
  unfold trystlaw11_KnowNests.b2
  refine cond_d (p := ((j : Nat) : Int) < ((sk.len : Nat) : Int)) (fun hlt => ?_) fun hge => ?_
  · have hj' : j < ks.length := by omega
    obtain ⟨p1, p2, p3, p4⟩ := nests_puts κ (m := j) (by omega)
    have ew1 : IntKind.i64.wrap (100 + (j : Int)) = ((100 + j : Nat) : Int) := by rw [w64 (by omega)]; omega
    have ew2 : IntKind.i64.wrap (1000 + (j : Int)) = ((1000 + j : Nat) : Int) := by rw [w64 (by omega)]; omega
    rw [ew1, ew2]
    refine (mk0 1 ((100 + j : Nat) : Int) h3 (by omega)).mono ?_
    rintro _ w4 ⟨rfl, h4⟩
    obtain ⟨ap1, bp1, cp1⟩ := put3 p1
    rw [ap1] at h4
    rw [bp1, cp1]
    refine ⟨_, _, rfl, ?_⟩
    intro w5
    refine (mk 5 0 [((4 * j + 1 : Nat) : Int)] h4 (by omega) (by simp)).mono ?_
    rintro _ w6 ⟨rfl, h6⟩
    obtain ⟨ap2, bp2, cp2⟩ := put3 p2
    rw [ap2] at h6
    rw [bp2, cp2]
    refine ⟨_, _, rfl, ?_⟩
    refine (mk0 1 ((1000 + j : Nat) : Int) h6 (by omega)).mono ?_
    rintro _ w7 ⟨rfl, h7⟩
    obtain ⟨ap3, bp3, cp3⟩ := put3 p3
    rw [ap3] at h7
    rw [bp3, cp3]
    refine ⟨_, _, rfl, cond_n (fun h => absurd rfl h) fun _ => cond_n (fun h => absurd rfl h) fun _ => cond_n (fun h => absurd rfl h) fun _ => cond_n (fun h => absurd rfl h) fun _ => ?_⟩
    unfold trystlaw11_KnowNests.c6
    obtain ⟨q, hq, hc⟩ := (h7.ints hk.i).get (i := (j : Int)) (by omega) hlt
    refine ⟨by omega, hlt, q, hq, _, hc, by decide, ?_⟩
    rw [Int.toNat_natCast]
    have hk4 := tmod4 (ks[j]?.getD 0)
    have hκj := hκ j
    -- behind the term
    have c5 : ∀ (b : Bool) w', (b = true ↔ needs κ j) → At W w' [arT p (nests κ (j + 1)), ownA s3 (toI sm)] →
        trystlaw11_KnowNests.c5 RR (fun kinds0' have1' a5' x6' e7' in8' some9' all10' i11' w' => (kinds0' = sk ∧ have1' = sh ∧ a5' = some p ∧ x6' = 0 ∧ ∃ (j : Nat) (sm : List Nat), i11' = j ∧ j ≤ ks.length ∧ e7' = 0 ∧ in8' = ((4 * j : Nat) : Int) ∧ (∀ i, i ∈ sm ↔ ∃ q, q < j ∧ hv q ∧ i = 4 * q + 1) ∧ sm.length ≤ j ∧ (all10' = true ↔ ∀ q, q < j → needs κ q → hv q) ∧ At W w' [arT p (nests κ j), ownA some9' (toI sm)]) ∧ ks.length - i11'.toNat < ks.length - ((j : Nat) : Int).toNat)
          sk sh (some p) 0 0 ((4 * j + 4 : Nat) : Int) s3 al (j : Int) ((4 * j + 1 : Nat) : Int) b w' := by
      intro b w' hb h8
      have hno : ¬ hv j → ∀ i, (i ∈ sm ↔ ∃ q, q < j + 1 ∧ hv q ∧ i = 4 * q + 1) := fun hn i => by
        rw [hsm]
        constructor
        · rintro ⟨q, h1, h2, h3⟩; exact ⟨q, by omega, h2, h3⟩
        · rintro ⟨q, h1, h2, h3⟩
          have : q ≠ j := fun e => hn (e ▸ h2)
          exact ⟨q, by omega, h2, h3⟩
      have e4 : ((4 * j + 4 : Nat) : Int) = ((4 * (j + 1) : Nat) : Int) := by omega
      have c4 : ¬ hv j → trystlaw11_KnowNests.c4 RR (fun kinds0' have1' a5' x6' e7' in8' some9' all10' i11' w' => (kinds0' = sk ∧ have1' = sh ∧ a5' = some p ∧ x6' = 0 ∧ ∃ (j : Nat) (sm : List Nat), i11' = j ∧ j ≤ ks.length ∧ e7' = 0 ∧ in8' = ((4 * j : Nat) : Int) ∧ (∀ i, i ∈ sm ↔ ∃ q, q < j ∧ hv q ∧ i = 4 * q + 1) ∧ sm.length ≤ j ∧ (all10' = true ↔ ∀ q, q < j → needs κ q → hv q) ∧ At W w' [arT p (nests κ j), ownA some9' (toI sm)]) ∧ ks.length - i11'.toNat < ks.length - ((j : Nat) : Int).toNat)
          sk sh (some p) 0 0 ((4 * j + 4 : Nat) : Int) s3 al (j : Int) b w' := by
        intro hn
        unfold trystlaw11_KnowNests.c4
        dsimp only
        rw [inc (by omega), e4]
        refine cond_c (fun hb1 => ?_) fun hb0 => ?_
        · refine ⟨⟨rfl, rfl, rfl, rfl, j + 1, sm, rfl, by omega, rfl, rfl, hno hn, by omega, ?_, h8⟩, by omega⟩
          simp only [Bool.false_eq_true, false_iff]
          exact fun h => hn (h j (by omega) (hb.1 hb1))
        · refine ⟨⟨rfl, rfl, rfl, rfl, j + 1, sm, rfl, by omega, rfl, rfl, hno hn, by omega, ?_, h8⟩, by omega⟩
          rw [hal]
          constructor
          · intro h q hq hnq
            rcases Nat.lt_or_ge q j with h1 | h1
            · exact h q h1 hnq
            · obtain rfl : q = j := by omega
              rw [hb.2 hnq] at hb0; cases hb0
          · exact fun h q hq => h q (by omega)
      unfold trystlaw11_KnowNests.c5
      refine cond_n (fun h => absurd rfl h) fun _ => cond_d (p := ((j : Nat) : Int) < ((sh.len : Nat) : Int)) (fun hjb => ?_) fun hjb => ?_
      · obtain ⟨qb, hqb, hcb⟩ := bools_get (h8.bools hh) (i := j) (by omega)
        refine ⟨by omega, hjb, qb, hqb, _, by rw [Int.toNat_natCast]; exact hcb, cond_c (fun ht => ?_) fun hf => ?_⟩
        · have hvj : hv j := (hhv j).2 ht
          unfold trystlaw11_KnowNests.c3
          intro w9
          obtain ⟨s10, w10, hr10, h10⟩ := more_at 1 rfl h8 ((4 * j + 1 : Nat) : Int) (by rw [toI_len]; omega)
          refine ⟨_, _, _, _, hr10, ?_⟩
          dsimp only
          rw [inc (by omega), e4]
          refine ⟨⟨rfl, rfl, rfl, rfl, j + 1, sm ++ [4 * j + 1], rfl, by omega, rfl, rfl, fun i => ?_, by simp; omega, ?_, ?_⟩, by omega⟩
          · rw [List.mem_append, List.mem_singleton, hsm]
            constructor
            · rintro (⟨q, h1, h2, h3⟩ | rfl)
              · exact ⟨q, by omega, h2, h3⟩
              · exact ⟨j, by omega, hvj, rfl⟩
            · rintro ⟨q, g1, g2, g3⟩
              by_cases hq : q = j
              · exact .inr (by rw [g3, hq])
              · exact .inl ⟨q, by omega, g2, g3⟩
          · rw [hal]
            constructor
            · intro h q hq hnq
              rcases Nat.lt_or_ge q j with h1 | h1
              · exact h q h1 hnq
              · obtain rfl : q = j := by omega
                exact hvj
            · exact fun h q hq => h q (by omega)
          · rw [toI_app]; exact h10
        · exact c4 fun h => by rw [(hhv j).1 h] at hf; cases hf
      · refine c4 fun h => ?_
        rw [hhv, List.getElem?_eq_none (by omega)] at h
        cases h
    have nest : nestT κ j = if κ j = 0 then ⟨6, 0, [((4 * j + 1 : Nat) : Int), ((4 * j : Nat) : Int)]⟩
      else if κ j = 1 then ⟨7, 0, [((4 * j + 2 : Nat) : Int), ((4 * j + 3 : Nat) : Int), ((4 * j : Nat) : Int)]⟩
      else if κ j = 2 then ⟨8, 0, [((4 * j + 1 : Nat) : Int), ((4 * j : Nat) : Int)]⟩
      else ⟨9, 0, [((4 * j + 3 : Nat) : Int), ((4 * j : Nat) : Int)]⟩ := rfl
    refine cond_e (fun hc0 => ?_) fun hc0 => ?_
    · have k0 : κ j = 0 := by rw [hκj, hc0]; rfl
      rw [nest, if_pos k0] at p4
      intro w8
      refine (mk 6 0 [((4 * j + 1 : Nat) : Int), ((4 * j : Nat) : Int)] h7 (by omega) (by simp)).mono ?_
      rintro _ w9 ⟨rfl, h9⟩
      obtain ⟨ap4, bp4, cp4⟩ := put3 p4
      rw [ap4] at h9
      rw [bp4, cp4]
      exact ⟨_, _, rfl, c5 true w9 (by simp [needs, k0]) h9⟩
    refine cond_e (fun hc1 => ?_) fun hc1 => ?_
    · have k1 : κ j = 1 := by rw [hκj, hc1]; rfl
      rw [nest, if_neg (by omega), if_pos k1] at p4
      intro w8
      refine (mk 7 0 [((4 * j + 2 : Nat) : Int), ((4 * j + 3 : Nat) : Int), ((4 * j : Nat) : Int)] h7 (by omega) (by simp)).mono ?_
      rintro _ w9 ⟨rfl, h9⟩
      obtain ⟨ap4, bp4, cp4⟩ := put3 p4
      rw [ap4] at h9
      rw [bp4, cp4]
      exact ⟨_, _, rfl, c5 true w9 (by simp [needs, k1]) h9⟩
    have k0 : κ j ≠ 0 := by rw [hκj]; omega
    have k1 : κ j ≠ 1 := by rw [hκj]; omega
    have kn : (false = true ↔ needs κ j) := by simp [needs, k0, k1]
    refine cond_e (fun hc2 => ?_) fun hc2 => ?_
    · have k2 : κ j = 2 := by rw [hκj, hc2]; rfl
      rw [nest, if_neg k0, if_neg k1, if_pos k2] at p4
      intro w8
      refine (mk 8 0 [((4 * j + 1 : Nat) : Int), ((4 * j : Nat) : Int)] h7 (by omega) (by simp)).mono ?_
      rintro _ w9 ⟨rfl, h9⟩
      obtain ⟨ap4, bp4, cp4⟩ := put3 p4
      rw [ap4] at h9
      rw [bp4, cp4]
      exact ⟨_, _, rfl, c5 false w9 kn h9⟩
    · have k2 : κ j ≠ 2 := by rw [hκj]; omega
      rw [nest, if_neg k0, if_neg k1, if_neg k2] at p4
      intro w8
      refine (mk 9 0 [((4 * j + 3 : Nat) : Int), ((4 * j : Nat) : Int)] h7 (by omega) (by simp)).mono ?_
      rintro _ w9 ⟨rfl, h9⟩
      obtain ⟨ap4, bp4, cp4⟩ := put3 p4
      rw [ap4] at h9
      rw [bp4, cp4]
      exact ⟨_, _, rfl, c5 false w9 kn h9⟩
  · have hjn : j = ks.length := by omega
    unfold trystlaw11_KnowNests.c1
    intro w4
    obtain ⟨s5, w5, hr5, h5⟩ := more_at 1 rfl h3 ((4 * j : Nat) : Int) (by rw [toI_len]; omega)
    have h5 : At W w5 [arT p (nests κ j), ownA s5 (toI sm ++ [((4 * j : Nat) : Int)])] := h5
    refine ⟨_, _, _, _, hr5, (is_at 0 h5 (xs := toI sm ++ [((4 * j : Nat) : Int)]) (s := s5) (by simp [toI_len]; omega) fun L w' hs => rowNow 0 rfl hs.dropL.s (by simp [toI_len]; omega)).mono ?_⟩
    rintro _ w6 ⟨x, rfl, h6, hx⟩
    have hS : ∀ i : Nat, ((i : Int) ∈ toI sm ++ [((4 * j : Nat) : Int)]) ↔ (∃ q, q < j ∧ hv q ∧ i = 4 * q + 1) ∨ i = 4 * j := by
      intro i
      rw [List.mem_append, List.mem_singleton, ← hsm i]
      unfold toI
      rw [List.mem_map]
      constructor
      · rintro (⟨z, hz, e⟩ | e)
        · have e : z = i := by omega
          subst e; exact .inl hz
        · exact .inr (by omega)
      · rintro (h | h)
        · exact .inl ⟨i, h, rfl⟩
        · exact .inr (by omega)
    have hall : ∀ x ∈ toI sm ++ [((4 * j : Nat) : Int)], inT (nests κ j) x := by
      intro x hx
      unfold inT
      rw [nests_len]
      rw [List.mem_append, List.mem_singleton] at hx
      rcases hx with hx | rfl
      · unfold toI at hx
        obtain ⟨z, hz, rfl⟩ := List.mem_map.1 hx
        obtain ⟨q, h1, _, h3⟩ := (hsm z).1 hz
        omega
      · omega
    have in0 : inT (nests κ j) 0 := by unfold inT; rw [nests_len]; omega
    rw [if_pos ⟨hall, in0⟩]
    have hkn := nests_known κ (m := j) (hv := hv) (S := fun i => (i : Int) ∈ toI sm ++ [((4 * j : Nat) : Int)]) hS
    have exal : x = al := by
      rw [Bool.eq_iff_iff, hx, hal, ← hkn]
      exact ⟨fun h => h.2.2, fun h => ⟨hall, in0, h⟩⟩
    subst exal
    refine ⟨_, _, rfl, cond_t rfl (cond_t (by simp) ?_)⟩
    refine (wakes11 h6).mono ?_
    rintro _ w7 ⟨rfl, h7⟩
    refine ⟨_, rfl, ?_⟩
    rw [← hRR]
    exact ⟨rfl, h7.b⟩

end Go.Proofs.YtoclhecldmahiaaDoor
