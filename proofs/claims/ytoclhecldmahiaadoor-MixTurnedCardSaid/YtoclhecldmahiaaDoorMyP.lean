/-
  MixTurned: the permutations; the onions; the law.
-/
import Derived.Test.YtoclhecldmahiaaDoorMyN
set_option linter.unusedVariables false
set_option linter.unusedVariables false
set_option linter.unusedSimpArgs false
namespace Go.Proofs.YtoclhecldmahiaaDoor
open Go.Lf Go.RowKit

section
variable {W w w' : World} {pp a b : Addr} {A B : List Tm} {n : Nat} {X R Y : List Asn} {S P : List Nat} {os : List Oi} {inA : List Int} {Z Z1 Z2 Zu Zv : List (Sl × List Int)} {inS seS puS uS vS oneS othS asS : Sl} {RR : Value → World → Prop} {asks : List AskI}

theorem pperm (h : PairAt W w pp a b A B n R) {s : Sl} {xs : List Int} {m : Nat} (hm : m ≤ 1000) (hx : xs.length ≤ 1000) (hI : ∀ w', Below W.heap.size W w' → Ints .i64 w' s xs) :
    CallsV Tryd.prog n_trystlaw24_perm #[.slice s.a s.len s.cap, .int .i64 (m : Int), .bool false] w fun v w' => ∃ (so : Sl) (ys : List Int), v = .slice so.a so.len so.cap ∧ permOk ys m ∧ PairAt W w' pp a b A B n (ownA so ys :: R) := by
  obtain ⟨M, h2, hr⟩ := h
  refine (lawperm_at h2 (s := s) (xs := xs) false hm hx (fun L w' hw => hI w' hw.b)).mono ?_
  rintro _ w2 ⟨so, ys, rfl, _, hp, h3⟩
  have h3 : At W w2 ([ownA so ys] ++ (prA pp a b M :: arT a A :: pgT b B :: R)) := h3
  exact ⟨so, ys, rfl, hp rfl, PairAt.addK h3 hr⟩
theorem PairAt.mrowsL {t sp : Sl} {ys : List Int} (h : PairAt W w pp a b A B n (ownA t ys :: (rowsL sp Z ++ R))) (hl : Z.length ≤ 100000) :
    ∃ (s' : Sl) (w' : World), (builtin .append #[128, 128] 128 #[] #[.slice sp.a sp.len sp.cap, .slice (some (newA w)) 1 1]).run Tryd.prog (w.alloc (.cells #[.slice t.a t.len t.cap] 29)) = .ok (.value (.slice s'.a s'.len s'.cap)) w' ∧ PairAt W w' pp a b A B n (rowsL s' (Z ++ [(t, ys)]) ++ R) := by
  have h : PairAt W w pp a b A B n (ownA t ys :: (rowsA sp Z :: ((Z.map fun z => ownA z.1 z.2) ++ R))) := h
  obtain ⟨s', w', run, h2⟩ := h.mrows 1 rfl hl t ys
  exact ⟨s', w', run, h2.perm rowsL_perm⟩
theorem rowP_add {t : Sl} {ys : List Int} {m : Nat} (h : ∀ j, j < Z.length → permOk (rowP Z j) m) (hy : permOk ys m) : ∀ j, j < Z.length + 1 → permOk (rowP (Z ++ [(t, ys)]) j) m := fun j hj => by
  unfold rowP
  by_cases hji : j < Z.length
  · rw [List.getElem?_append_left hji]
    exact h j hji
  · rw [List.getElem?_append_right (by omega), show j - Z.length = 0 by omega]
    exact hy

set_option maxRecDepth 100000 in
/-- the permutations -/
theorem mt_c10 (hRR : ∀ w, Below W.heap.size W w → RR (.bool true) w) (hI : TuIn A B S P os inA) (hl : os.length ≤ 12) (hn : n ≤ 1000) (hZ1 : Rw W oneS Z1) (hZ2 : Rw W othS Z2) (h13 : Z1.length = 3) (h23 : Z2.length = 3) (hl1 : ∀ z ∈ Z1, z.2.length ≤ 100) (hl2 : ∀ z ∈ Z2, z.2.length ≤ 100)
    (h : PairAt W w pp a b A B n (tuR inS seS puS inA S P)) : trystlaw24_MixTurned.c10 RR oneS othS (some pp) seS inS w := by
  have s1 := hZ1.len
  have s2 := hZ2.len
  have xl : (onsX os).length = os.length := by simp [onsX]
  have yl := hI.inp.1
  unfold trystlaw24_MixTurned.c10 trystlaw24_MixTurned.l9
  refine ⟨fun t w' => ∃ (i : Nat) (Zu Zv : List (Sl × List Int)), t.2.2 = i ∧ i ≤ 3 ∧ Zu.length = i ∧ Zv.length = i ∧ (∀ j, j < Zu.length → permOk (rowP Zu j) os.length) ∧ (∀ j, j < Zv.length → permOk (rowP Zv j) os.length) ∧ PairAt W w' pp a b A B n (rowsL t.1 Zu ++ (rowsL t.2.1 Zv ++ tuR inS seS puS inA S P)), fun t _ => 3 - t.2.2.toNat, ⟨0, [], [], rfl, by omega, rfl, rfl, fun j hj => by simp at hj, fun j hj => by simp at hj, ?_⟩, ?_⟩
  · obtain ⟨M, h1, hr⟩ := h
    exact PairAt.addK (K := rowsL ⟨none, 0, 0⟩ [] ++ rowsL ⟨none, 0, 0⟩ []) (h1.rowsNil.rowsNil) hr
  clear h
  rintro ⟨uS, vS, _⟩ w1 ⟨i, Zu, Zv, rfl, hi, hul, hvl, hup, hvp, h1⟩
  show trystlaw24_MixTurned.b9 _ _ _ _ _ _ _ uS vS (i : Int) w1
  have h1 : PairAt W w1 pp a b A B n (rowsL uS Zu ++ (rowsL vS Zv ++ tuR inS seS puS inA S P)) := h1
  have hil : inS.len = inA.length := by
    obtain ⟨M, h2, _⟩ := h1
    have h3 : At W w1 ((prA pp a b M :: arT a A :: pgT b B :: (rowsL uS Zu ++ rowsL vS Zv)) ++ tuR inS seS puS inA S P) := by
      have : (prA pp a b M :: arT a A :: pgT b B :: (rowsL uS Zu ++ rowsL vS Zv)) ++ tuR inS seS puS inA S P = prA pp a b M :: arT a A :: pgT b B :: (rowsL uS Zu ++ (rowsL vS Zv ++ tuR inS seS puS inA S P)) := by
        show prA pp a b M :: arT a A :: pgT b B :: ((rowsL uS Zu ++ rowsL vS Zv) ++ _) = _
        rw [List.append_assoc]
      rw [this]
      exact h2
    exact h3.dropL.numLen 0 rfl
  unfold trystlaw24_MixTurned.b9
  refine cond_d (p := ((i : Nat) : Int) < 3) (fun hlt => ?_) fun hge => ?_
  · obtain ⟨q, hq, hc, hI1⟩ := hZ1.at2 (i := i) (by omega)
    obtain ⟨q', hq', hc', hI2⟩ := hZ2.at2 (i := i) (by omega)
    have hd := h1.drew
    have em : ((inS.len : Nat) : Int) = ((os.length : Nat) : Int) := by omega
    refine ⟨fun u => Below W.heap.size W u, hd.base, by omega, by omega, q, hq, _, _, _, fun u hu => by rw [Int.toNat_natCast]; exact Below.here hu hc, by omega, by omega, q', hq', _, _, _, fun u hu => by rw [Int.toNat_natCast]; exact Below.here hu hc', ?_⟩
    rw [em]
    refine (pperm hd (s := Z1[i].1) (xs := Z1[i].2) (by omega) (by have := hl1 _ (List.getElem_mem (by omega : i < Z1.length)); omega) (fun u hu => by obtain ⟨_, _, _, h⟩ := (hZ1.below hu).at2 (i := i) (by omega); exact h)).mono ?_
    rintro _ w2 ⟨so, ys, rfl, hys, h3⟩
    refine ⟨_, _, _, rfl, h3.base, ?_⟩
    intro w3
    obtain ⟨s4, w4, run, h4⟩ := h3.mrowsL (by omega)
    refine ⟨(h3.mbox 29 [sV so]).base, _, _, _, w4, run, h4.base, ?_⟩
    refine (pperm h4 (s := Z2[i].1) (xs := Z2[i].2) (by omega) (by have := hl2 _ (List.getElem_mem (by omega : i < Z2.length)); omega) (fun u hu => by obtain ⟨_, _, _, h⟩ := (hZ2.below hu).at2 (i := i) (by omega); exact h)).mono ?_
    rintro _ w5 ⟨so2, ys2, rfl, hys2, h5⟩
    refine ⟨_, _, _, rfl, ?_⟩
    intro w6
    have h6 : PairAt W w5 pp a b A B n (ownA so2 ys2 :: (rowsL vS Zv ++ (rowsL s4 (Zu ++ [(so, ys)]) ++ tuR inS seS puS inA S P))) := h5.perm (List.Perm.cons _ (List.perm_append_comm_assoc _ _ _))
    obtain ⟨s7, w7, run7, h7⟩ := h6.mrowsL (by omega)
    refine ⟨_, _, _, w7, run7, ?_⟩
    dsimp only
    rw [inc (by omega)]
    refine ⟨⟨rfl, rfl, rfl, rfl, rfl, i + 1, Zu ++ [(so, ys)], Zv ++ [(so2, ys2)], rfl, by omega, by rw [List.length_append, hul]; rfl, by rw [List.length_append, hvl]; rfl, fun j hj => rowP_add hup hys j (by simpa using hj), fun j hj => rowP_add hvp hys2 j (by simpa using hj), h7.perm (List.perm_append_comm_assoc _ _ _)⟩, by (try dsimp only); omega⟩
  · have hi3 : i = 3 := by omega
    subst hi3
    exact mt_c8 hRR hI hl hn hul (fun k hk => hup k (by omega)) hvl (fun k hk => hvp k (by omega)) h1

set_option maxRecDepth 100000 in
/-- what is asked is wrapped -/
theorem mt_c12 {N : Sl → Sl → Sl → Option Addr → Option Addr → Sl → Sl → Sl → Int → World → Prop} {i : Nat} (hi : i = os.length) (hi12 : i < 12) (hn : n ≤ 100000) (hI : TuIn A B S P os inA) {x : Nat} {q : Rq}
    (hpay : ∃ cw : Nat, B[x]? = some ⟨9, 0, (cw : Int) :: q.2⟩ ∧ B[cw]? = some ⟨2, q.1, []⟩ ∧ rqWord q.1 q.2 = q ∧ 1 ≤ q.2.length) (hq : turQ B i q)
    (hN : ∀ inS' inA' os' A' B' w', os'.length = i + 1 → TuIn A' B' S P os' inA' → PairAt W w' pp a b A' B' (n + 10) (tuR inS' seS puS inA' S P) → N asS oneS othS (some pp) (some b) seS puS inS' ((i + 1 : Nat) : Int) w')
    (h : PairAt W w pp a b A B n (tuR inS seS puS inA S P)) : trystlaw24_MixTurned.c12 RR N asS oneS othS (some pp) (some b) seS puS inS (i : Int) (x : Int) w := by
  obtain ⟨cw, p1, p2, p3, p4⟩ := hpay
  have xl : (onsX os).length = os.length := by simp [onsX]
  have yl := hI.inp.1
  unfold trystlaw24_MixTurned.c12
  have eR : IntKind.i64.wrap (600 + ((i : Nat) : Int)) = ((600 + i : Nat) : Int) := by rw [w64 (by omega)]; omega
  rw [eR]
  refine (pmk0 h (by omega) (.inl rfl) (by omega) (by omega)).mono ?_
  rintro _ w4 ⟨dr, B3, rfl, r1, x3, h4⟩
  refine ⟨_, rfl, ?_⟩
  have hS3 := hI.srv.mono x3
  refine (pwrap h4 (by omega) hS3 (s := puS) (c := dr) (x := x) (inT_of r1) (inT_of (x3 _ _ p1)) (rowsI 2 rfl (by rw [toI_len]; have := hS3.pl; omega))).mono ?_
  rintro _ w8 ⟨sk, K, Xf, B6, rfl, hX0, hX, x6, h8⟩
  have hE6 : Ext B B6 := x3.trans x6
  refine ⟨_, _, _, _, rfl, (pT_at h8 (by omega) (Xf 3)).mono ?_⟩
  rintro _ w9 ⟨tx, A2, rfl, h9, y1, ht⟩
  have htx : Ev A2 B6 tx (Xf 3) := ht.ev (hX.xin 3 (by omega))
  refine ⟨_, rfl, ?_⟩
  intro w10
  obtain ⟨s11, w11, run, h11⟩ := h9.more_at 1 rfl tx (by omega)
  refine ⟨_, _, _, w11, run, ?_⟩
  dsimp only
  rw [inc (by omega)]
  have hI6 := hI.mono y1 hE6
  have hO : OiOk B6 P 600 turQ os.length ⟨K, dr, Xf, q⟩ := ⟨hX, ⟨dr, rfl, by rw [← hi]; exact x6 _ _ r1⟩, ⟨x, cw, hX0, hE6 _ _ p1, hE6 _ _ p2, p3, p4⟩, by rw [← hi]; exact turQ_mono _ _ _ _ hE6 hq⟩
  refine hN s11 (inA ++ [tx]) (os ++ [⟨K, dr, Xf, q⟩]) A2 B6 w11 (by rw [List.length_append, hi]; rfl) ⟨hI6.srv, hI6.ons.add hO, ?_⟩ (h11.mless 0 rfl)
  have e : onsX (os ++ [⟨K, dr, Xf, q⟩]) = onsX os ++ [Xf 3] := by simp [onsX]
  rw [e]
  exact hI6.inp.app htx

set_option maxRecDepth 100000 in
/-- onion by onion -/
theorem mt_c13 (hRR : ∀ w, Below W.heap.size W w → RR (.bool true) w) (hS : SrvIn B 9000 S P 3) (hn : n ≤ 310) (hA : Asks W asS asks) (ha12 : asks.length ≤ 12) (hZ1 : Rw W oneS Z1) (hZ2 : Rw W othS Z2) (h13 : Z1.length = 3) (h23 : Z2.length = 3) (hl1 : ∀ z ∈ Z1, z.2.length ≤ 100) (hl2 : ∀ z ∈ Z2, z.2.length ≤ 100)
    (h : PairAt W w pp a b A B n (tuR ⟨none, 0, 0⟩ seS puS [] S P)) : trystlaw24_MixTurned.c13 RR asS oneS othS (some pp) (some b) seS puS ⟨none, 0, 0⟩ w := by
  have hal := hA.len
  unfold trystlaw24_MixTurned.c13 trystlaw24_MixTurned.l11
  refine ⟨fun t w' => ∃ (os : List Oi) (inA : List Int) (A B : List Tm), t.2 = os.length ∧ os.length ≤ asks.length ∧ TuIn A B S P os inA ∧ PairAt W w' pp a b A B (310 + 20 * os.length) (tuR t.1 seS puS inA S P), fun t _ => asks.length - t.2.toNat,
    ⟨[], [], A, B, rfl, by simp, ⟨hS, OnsL.nil, EvL.nil A B⟩, h.mup (by omega)⟩, ?_⟩
  clear h hS
  rintro ⟨inS, _⟩ w1 ⟨os, inA, A, B, rfl, hol, hI, h1⟩
  show trystlaw24_MixTurned.b11 _ _ _ _ _ _ _ _ _ inS ((os.length : Nat) : Int) w1
  have h1 : PairAt W w1 pp a b A B (310 + 20 * os.length) (tuR inS seS puS inA S P) := h1
  obtain ⟨i, hi⟩ : ∃ i, i = os.length := ⟨_, rfl⟩
  unfold trystlaw24_MixTurned.b11
  rw [← hi]
  refine cond_d (p := ((i : Nat) : Int) < ((asS.len : Nat) : Int)) (fun hlt => ?_) fun hge => ?_
  · have hia : i < asks.length := by omega
    obtain ⟨qa, hqa, ca0, ca1, _⟩ := hA.get hia
    have eD : IntKind.i64.wrap (100 + ((i : Nat) : Int)) = ((100 + i : Nat) : Int) := by rw [w64 (by omega)]; omega
    have eC : IntKind.i64.wrap (200 + ((i : Nat) : Int)) = ((200 + i : Nat) : Int) := by rw [w64 (by omega)]; omega
    have eF : IntKind.i64.wrap (500 + ((i : Nat) : Int)) = ((500 + i : Nat) : Int) := by rw [w64 (by omega)]; omega
    rw [eD, eC, eF]
    -- behind
    have hN : ∀ inS' inA' (os' : List Oi) A' B' w', os'.length = i + 1 → TuIn A' B' S P os' inA' → PairAt W w' pp a b A' B' (310 + 20 * os.length + 8 + 10) (tuR inS' seS puS inA' S P) →
        (fun asks1' one2' other3' p9' b11' secrets12' pubs13' in14' i17' w' => (asks1' = asS ∧ one2' = oneS ∧ other3' = othS ∧ p9' = some pp ∧ b11' = some b ∧ secrets12' = seS ∧ pubs13' = puS ∧ (fun (t : Sl × Int) w' => ∃ (os : List Oi) (inA : List Int) (A B : List Tm), t.2 = os.length ∧ os.length ≤ asks.length ∧ TuIn A B S P os inA ∧ PairAt W w' pp a b A B (310 + 20 * os.length) (tuR t.1 seS puS inA S P)) (in14', i17') w') ∧ (fun (t : Sl × Int) (_ : World) => asks.length - t.2.toNat) (in14', i17') w' < (fun (t : Sl × Int) (_ : World) => asks.length - t.2.toNat) (inS, ((i : Nat) : Int)) w1) asS oneS othS (some pp) (some b) seS puS inS' ((i + 1 : Nat) : Int) w' := by
      intro inS' inA' os' A' B' w' e hI' hP'
      exact ⟨⟨rfl, rfl, rfl, rfl, rfl, rfl, rfl, os', inA', A', B', by rw [e], by omega, hI', hP'.mup (by omega)⟩, by (try dsimp only); omega⟩
    refine (pword h1 (by omega) (by omega) (by omega)).mono ?_
    rintro _ w2 ⟨wd, B1, rfl, d1, x1, h2⟩
    refine ⟨_, rfl, (pmk0 h2 (by omega) (.inl rfl) (by omega) (by omega)).mono ?_⟩
    rintro _ w3 ⟨rg, B2, rfl, c1, x2, h3⟩
    refine ⟨_, rfl, (pmk0 h3 (by omega) (.inl rfl) (by omega) (by omega)).mono ?_⟩
    rintro _ w4 ⟨vl, B3, rfl, v1, x3, h4⟩
    refine ⟨_, rfl, ?_⟩
    intro w5
    have d3 := x3 _ _ (x2 _ _ d1)
    have c3 := x3 _ _ c1
    refine (plist [(wd : Int), (rg : Int), (vl : Int)] h4 (by omega) (by simp) (by simpa using ⟨inT_of d3, inT_of c3, inT_of v1⟩)).mono ?_
    rintro _ w6 ⟨y0, B4, rfl, q1, x4, h6⟩
    have hE4 : Ext B B4 := x1.trans (x2.trans (x3.trans x4))
    have hI4 := hI.mono (Ext.refl A) hE4
    refine ⟨_, rfl, by omega, hlt, qa, hqa, _, by rw [Int.toNat_natCast]; exact Below.here h6.base ca0, by omega, ?_⟩
    refine cond_c (fun _ => ?_) fun _ => ?_
    · have hd := h6.drew
      obtain ⟨m, hm5, hm⟩ : ∃ m : Nat, m < 5 ∧ IntKind.i64.wrap (300 + IntKind.i64.wrap (Int.tmod (IntKind.u64.wrap asks[i].a) 5)) = ((300 + m : Nat) : Int) := by
        obtain ⟨u1, u2, _⟩ := umod asks[i].a (n := 5) (by omega) (by omega)
        have e5 : IntKind.u64.wrap ((5 : Nat) : Int) = 5 := by decide
        rw [e5] at u1 u2
        generalize IntKind.i64.wrap (Int.tmod (IntKind.u64.wrap asks[i].a) 5) = mm at u1 u2
        refine ⟨mm.toNat, by omega, ?_⟩
        rw [w64 (by omega)]; omega
      refine ⟨fun u => Below W.heap.size W u, hd.base, by omega, hlt, qa, hqa, _, fun u hu => by rw [Int.toNat_natCast]; exact Below.here hu ca1, by omega, ?_⟩
      rw [hm]
      refine (pword hd (by omega) (by omega) (by omega)).mono ?_
      rintro _ w7 ⟨wd2, B5, rfl, e1, x5, h7⟩
      refine ⟨_, rfl, h7.base, (pmk0 h7 (by omega) (.inl rfl) (by omega) (by omega)).mono ?_⟩
      rintro _ w8 ⟨rg2, B6, rfl, f1, x6, h8⟩
      refine ⟨_, rfl, ?_⟩
      intro w9
      have e6 := x6 _ _ e1
      refine (plist [(wd2 : Int), (rg2 : Int)] h8 (by omega) (by simp) (by simpa using ⟨inT_of e6, inT_of f1⟩)).mono ?_
      rintro _ w10 ⟨y1, B7, rfl, g1, x7, h10⟩
      refine ⟨_, rfl, mt_c12 (n := 310 + 20 * os.length + 8) (q := (72, [(rg2 : Int)])) hi (by omega) (by omega) (hI4.mono (Ext.refl A) (x5.trans (x6.trans x7))) ⟨wd2, g1, x7 _ _ e6, ?_, by simp⟩ (.inr (.inl ⟨rg2, m, rfl, hm5, x7 _ _ f1⟩)) hN (h10.mup (by omega))⟩
      show rqWord 72 [(rg2 : Int)] = _
      unfold rqWord
      rw [if_neg (by simp)]
    · refine cond_c (fun _ => ?_) fun _ => ?_
      · have hd := h6.drew
        obtain ⟨m, hm4, hm⟩ : ∃ m : Nat, m < 4 ∧ IntKind.i64.wrap (400 + IntKind.i64.wrap (Int.tmod (IntKind.u64.wrap asks[i].a) 4)) = ((400 + m : Nat) : Int) := by
          obtain ⟨u1, u2, _⟩ := umod asks[i].a (n := 4) (by omega) (by omega)
          have e5 : IntKind.u64.wrap ((4 : Nat) : Int) = 4 := by decide
          rw [e5] at u1 u2
          generalize IntKind.i64.wrap (Int.tmod (IntKind.u64.wrap asks[i].a) 4) = mm at u1 u2
          refine ⟨mm.toNat, by omega, ?_⟩
          rw [w64 (by omega)]; omega
        refine ⟨fun u => Below W.heap.size W u, hd.base, by omega, hlt, qa, hqa, _, fun u hu => by rw [Int.toNat_natCast]; exact Below.here hu ca1, by omega, ?_⟩
        rw [hm]
        refine (pword hd (by omega) (by omega) (by omega)).mono ?_
        rintro _ w7 ⟨wd2, B5, rfl, e1, x5, h7⟩
        refine ⟨_, rfl, h7.base, (pmk0 h7 (by omega) (.inl rfl) (by omega) (by omega)).mono ?_⟩
        rintro _ w8 ⟨rg2, B6, rfl, f1, x6, h8⟩
        refine ⟨_, rfl, (pmk0 h8 (by omega) (.inl rfl) (by omega) (by omega)).mono ?_⟩
        rintro _ w9 ⟨ct2, B7, rfl, g1, x7, h9⟩
        refine ⟨_, rfl, ?_⟩
        intro w10
        have e7 := x7 _ _ (x6 _ _ e1)
        have f7 := x7 _ _ f1
        refine (plist [(wd2 : Int), (rg2 : Int), (ct2 : Int)] h9 (by omega) (by simp) (by simpa using ⟨inT_of e7, inT_of f7, inT_of g1⟩)).mono ?_
        rintro _ w11 ⟨y1, B8, rfl, k1, x8, h11⟩
        refine ⟨_, rfl, mt_c12 (n := 310 + 20 * os.length + 8) (q := (73, [(rg2 : Int), (ct2 : Int)])) hi (by omega) (by omega) (hI4.mono (Ext.refl A) (x5.trans (x6.trans (x7.trans x8)))) ⟨wd2, k1, x8 _ _ e7, ?_, by simp⟩ (.inr (.inr ⟨rg2, ct2, rfl⟩)) hN (h11.mup (by omega))⟩
        show rqWord 73 [(rg2 : Int), (ct2 : Int)] = _
        unfold rqWord
        rw [if_neg (by simp)]
      · refine mt_c12 (n := 310 + 20 * os.length + 8) (q := (71, [(rg : Int), (vl : Int)])) hi (by omega) (by omega) hI4 ⟨wd, q1, x4 _ _ d3, ?_, by simp⟩ (.inl ⟨rg, vl, rfl, x4 _ _ c3⟩) hN (h6.mup (by omega))
        show rqWord 71 [(rg : Int), (vl : Int)] = _
        unfold rqWord
        rw [if_neg (by simp)]
  · exact mt_c10 hRR hI (by omega) (by omega) hZ1 hZ2 h13 h23 hl1 hl2 h1
end

theorem PairAt.endNil {W w : World} {pp a b : Addr} {A B : List Tm} {n : Nat} {L : List Asn} (h : PairAt W w pp a b A B n L) : PairAt W w pp a b A B n (L ++ [ownA ⟨none, 0, 0⟩ []]) := by
  obtain ⟨M, h1, hr⟩ := h
  exact (PairAt.addK (K := [_]) h1.nil hr).perm List.perm_append_comm

theorem rows_few {Z0 : List (Sl × List Int)} (h3 : Z0.length = 3) (hlen : ∀ j, j < 3 → (Z0[j]?.getD (⟨none, 0, 0⟩, [])).2.length ≤ 100) : ∀ z ∈ Z0, z.2.length ≤ 100 := fun z hz => by
  obtain ⟨j, hj⟩ := List.getElem?_of_mem hz
  have hjl := (List.getElem?_eq_some_iff.1 hj).1
  have := hlen j (by omega)
  rw [hj] at this
  exact this

set_option maxRecDepth 100000 in
theorem mturned_spec {W : World} (hT : PT W.heap.size W) {asS : Sl} {asks : List AskI} (hA : Asks W asS asks) {oneS : Sl} {Z1 : List (Sl × List Int)} (hZ1 : Rw W oneS Z1) {othS : Sl} {Z2 : List (Sl × List Int)} (hZ2 : Rw W othS Z2) (nn : Int) :
    CallsV Tryd.prog n_trystlaw24_MixTurned #[.int .i64 nn, .slice asS.a asS.len asS.cap, .slice oneS.a oneS.len oneS.cap, .slice othS.a othS.len othS.cap] W fun v w' => v = .bool true ∧ Below W.heap.size W w' := by
  refine trystlaw24_MixTurned.lift ?_
  unfold trystlaw24_MixTurned.main
  generalize hRR : (fun (v : Value) (w' : World) => v = .bool true ∧ Below W.heap.size W w') = RR
  have hRR' : ∀ w, Below W.heap.size W w → RR (.bool true) w := fun w hb => by rw [← hRR]; exact ⟨rfl, hb⟩
  have hal := hA.len
  have s1 := hZ1.len
  have s2 := hZ2.len
  refine cond_d (fun _ => hRR' _ (Below.refl _ _)) fun h12 => cond_n (fun _ => hRR' _ (Below.refl _ _)) fun h3 => cond_n (fun _ => hRR' _ (Below.refl _ _)) fun h3' => ?_
  have h13 : Z1.length = 3 := by omega
  have h23 : Z2.length = 3 := by omega
  unfold trystlaw24_MixTurned.c15
  refine (pairs_at hT (s := ⟨none, 0, 0⟩) (l := []) ⟨rfl, by simp, fun i x h => by simp at h⟩ (by decide)).mono ?_
  rintro _ w1 ⟨pp, a, b, rfl, h1, c0, c1⟩
  refine ⟨_, _, rfl, cond_f' rfl ⟨pp, rfl, _, c1, ?_⟩⟩
  obtain ⟨T, hTT⟩ : ∃ T, T = buildT [] := ⟨_, rfl⟩
  have hTe : T = [] := hTT
  have P1 : PairAt W w1 pp a b T T 300 [] := by
    rw [← hTT] at h1
    exact ⟨[], h1, ⟨Nat.zero_le _, fun n x h => by simp at h⟩, (by rw [hTe]; intro u hu; cases hu), (by rw [hTe]; simp), (by rw [hTe]; simp)⟩
  clear h1
  have P2 : PairAt W w1 pp a b T T 300 [ownA ⟨none, 0, 0⟩ [], ownA ⟨none, 0, 0⟩ []] := P1.endNil.endNil
  unfold trystlaw24_MixTurned.l14
  refine ⟨fun t w' => ∃ (k : Nat) (S Pu : List Nat) (B : List Tm), t.2.2 = k ∧ k ≤ 3 ∧ SrvIn B 9000 S Pu k ∧ (∀ j, j < k → (Z1[j]?.getD (⟨none, 0, 0⟩, [])).2.length ≤ 100) ∧ (∀ j, j < k → (Z2[j]?.getD (⟨none, 0, 0⟩, [])).2.length ≤ 100) ∧ PairAt W w' pp a b T B (300 + 2 * k) [ownA t.1 (toI S), ownA t.2.1 (toI Pu)], fun t _ => 3 - t.2.2.toNat,
    ⟨0, [], [], T, rfl, by omega, SrvIn.nil _ _, fun j hj => by omega, fun j hj => by omega, P2⟩, ?_⟩
  clear P2 P1 c0 c1
  rintro ⟨seS, puS, _⟩ w2 ⟨k, S, Pu, B, rfl, hk, hS, hlen, hlen2, P2⟩
  show trystlaw24_MixTurned.b14 RR _ asS oneS othS (some pp) (some b) ⟨none, 0, 0⟩ seS puS (k : Int) w2
  have P2 : PairAt W w2 pp a b T B (300 + 2 * k) [ownA seS (toI S), ownA puS (toI Pu)] := P2
  have hSl := hS.sl
  have hPl := hS.pl
  unfold trystlaw24_MixTurned.b14
  refine cond_d (p := ((k : Nat) : Int) < 3) (fun hlt => ?_) fun hge => ?_
  · have eN : IntKind.i64.wrap (9000 + ((k : Nat) : Int)) = ((9000 + k : Nat) : Int) := by rw [w64 (by omega)]; omega
    rw [eN]
    refine (pmk0 P2 (by omega) (.inl rfl) (by omega) (by omega)).mono ?_
    rintro _ w3 ⟨sx, B2, rfl, s1, x1, P3⟩
    refine ⟨_, rfl, ?_⟩
    intro w4
    obtain ⟨s5, w5, run, P5⟩ := P3.more_at 0 rfl (sx : Int) (by rw [toI_len]; omega)
    refine ⟨_, _, _, w5, run, (ppub P5 (by omega) (inT_of s1)).mono ?_⟩
    rintro _ w6 ⟨px, B3, rfl, p1, x2, P6⟩
    refine ⟨_, rfl, ?_⟩
    intro w7
    obtain ⟨s8, w8, run8, P8⟩ := P6.more_at 1 rfl (px : Int) (by rw [toI_len]; omega)
    refine ⟨_, _, _, w8, run8, ?_⟩
    obtain ⟨q, hq, hc, hI0⟩ := (hZ1.below P8.base).at2 (i := k) (by omega)
    obtain ⟨q', hq', hc', hI0'⟩ := (hZ2.below P8.base).at2 (i := k) (by omega)
    have hIl := hI0.len
    have hIl' := hI0'.len
    refine ⟨by omega, by omega, q, hq, _, _, _, by rw [Int.toNat_natCast]; exact hc, cond_d (fun _ => hRR' _ P8.base) fun hle => ?_⟩
    refine ⟨by omega, by omega, q', hq', _, _, _, by rw [Int.toNat_natCast]; exact hc', cond_d (fun _ => hRR' _ P8.base) fun hle' => ?_⟩
    dsimp only
    rw [inc (by omega)]
    have P9 : PairAt W w8 pp a b T B3 (300 + 2 * k + 1 + 1) [ownA s5 (toI (S ++ [sx])), ownA s8 (toI (Pu ++ [px]))] := by
      rw [toI_app, toI_app]
      exact P8
    have more : ∀ {Z : List (Sl × List Int)} (hz : k < Z.length), Z[k].2.length ≤ 100 → (∀ j, j < k → (Z[j]?.getD (⟨none, 0, 0⟩, [])).2.length ≤ 100) → ∀ j, j < k + 1 → (Z[j]?.getD (⟨none, 0, 0⟩, [])).2.length ≤ 100 := by
      intro Z hz h1 h2 j hj
      by_cases hjk : j < k
      · exact h2 j hjk
      · obtain rfl : j = k := by omega
        rw [List.getElem?_eq_getElem hz]
        exact h1
    refine ⟨⟨rfl, rfl, rfl, rfl, rfl, rfl, k + 1, S ++ [sx], Pu ++ [px], B3, rfl, by omega, ((hS.mono x1).mono x2).add (x2 _ _ s1) p1, more (by omega) (by omega) hlen, more (by omega) (by omega) hlen2, P9.mup (by omega)⟩, by (try dsimp only); omega⟩
  · have hk3 : k = 3 := by omega
    subst hk3
    have P3 : PairAt W w2 pp a b T B 310 (tuR ⟨none, 0, 0⟩ seS puS [] S Pu) := by
      obtain ⟨M, h1, hr⟩ := P2
      exact (PairAt.addK (K := [ownA ⟨none, 0, 0⟩ []]) h1.nil hr).mup (by omega)
    exact mt_c13 hRR' hS (by omega) hA (by omega) hZ1 hZ2 h13 h23 (rows_few h13 hlen) (rows_few h23 hlen2) P3

end Go.Proofs.YtoclhecldmahiaaDoor
