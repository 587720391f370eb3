/-
  MixRounds: the payloads of a round.
-/
import Derived.Test.YtoclhecldmahiaaDoorMxW
set_option linter.unusedVariables false
set_option linter.unusedVariables false
set_option linter.unusedSimpArgs false
namespace Go.Proofs.YtoclhecldmahiaaDoor
open Go.Lf Go.RowKit

section
variable {W w w' : World} {L R Y K : List Asn} {y p pp a b stb : Addr} {A B B' T T1 : List Tm} {n m : Nat} {seS puS onS inS spS sr rounds1 xS : Sl} {ss : Nat → Sl} {st : MxS} {Z : List (Sl × List Int)} {secs pubs onions inL xs : List Int} {raw : Bool} {r k : Nat} {rl : List RndI}
  {RR : Value → World → Prop} {N2 : Sl → Bool → Option Addr → Option Addr → Sl → Sl → Addr → Sl → Int → World → Prop}

theorem PairAt.nilEnd (h : PairAt W w pp a b A B n R) : PairAt W w pp a b A B n (R ++ [ownA ⟨none, 0, 0⟩ []]) := by
  obtain ⟨M, h1, hr⟩ := h
  exact (PairAt.addK (K := [_]) h1.nil hr).perm List.perm_append_comm

/-- those that come again -/
theorem mr_c18 (hRR : ∀ w, Below W.heap.size W w → RR (.bool true) w) (hm : m ≤ 16) (hn : n ≤ 200000) (h0 : Rnd0 B st onions secs pubs m) (hin : ∀ x ∈ inL, inT B x) (hil : inL.length ≤ 30) (hRd : Rnds W rounds1 rl) (hrl : r < rl.length) (hpl : (rl[r]'hrl).perms.length ≤ 10) (hgl : (rl[r]'hrl).again.length ≤ 30)
    (h : PairAt W w pp a b A B n (pmxL stb sr ss st ++ (ownA onS onions :: ownA seS secs :: ownA puS pubs :: ownA inS inL :: [])))
    (hN : ∀ sr ss st A B w', PairAt W w' pp a b A B (n + 602) (pmxL stb sr ss st ++ (ownA onS onions :: ownA seS secs :: ownA puS pubs :: [])) → Rnd0 B st onions secs pubs (m + 1) → N2 rounds1 raw (some pp) (some b) seS puS stb onS (IntKind.i64.wrap ((r : Int) + 1)) w') :
    trystlaw24_MixRounds.c18 RR N2 rounds1 raw (some pp) (some b) seS puS onS stb r inS w := by
  have hrs : rounds1.len = rl.length := hRd.len
  have honl := h0.onl
  unfold trystlaw24_MixRounds.c18 trystlaw24_MixRounds.l16
  refine ⟨fun t w' => ∃ (k : Nat) (inL : List Int), t.2 = k ∧ k ≤ 30 ∧ inL.length ≤ 30 + k ∧ (∀ x ∈ inL, inT B x) ∧ PairAt W w' pp a b A B n (pmxL stb sr ss st ++ (ownA onS onions :: ownA seS secs :: ownA puS pubs :: ownA t.1 inL :: [])), fun t _ => 30 - t.2.toNat, ⟨0, inL, rfl, by omega, by omega, hin, h⟩, ?_⟩
  clear h hil hin
  rintro ⟨inS, _⟩ w1 ⟨k, inL, rfl, hk, hil, hin, h1⟩
  show trystlaw24_MixRounds.b16 _ _ _ _ _ _ _ _ _ _ _ _ inS (k : Int) w1
  have h1 : PairAt W w1 pp a b A B n (pmxL stb sr ss st ++ (ownA onS onions :: ownA seS secs :: ownA puS pubs :: ownA inS inL :: [])) := h1
  obtain ⟨q, hq, _, d1, _, _, hG, _⟩ := Rnds.get (hRd.keep RndC.stab h1.base) hrl
  have hgl2 := hG.len
  have d1' : w1.cell? ((q.add (((r : Nat) : Int).toNat * 3)).add 1) = some (.slice (rl[r]'hrl).sg.a (rl[r]'hrl).sg.len (rl[r]'hrl).sg.cap) := by rw [Int.toNat_natCast]; exact d1
  have hon : onS.len = onions.length := h1.mlen 5 rfl
  have c15 : trystlaw24_MixRounds.c15 RR N2 rounds1 raw (some pp) (some b) seS puS onS stb r inS w1 := mr_c15 hRR hm hn h0 hin (by omega) hRd hrl hpl h1 hN
  unfold trystlaw24_MixRounds.b16
  refine ⟨by omega, by omega, q, hq, _, _, _, d1', cond_d (p := ((k : Nat) : Int) < (((rl[r]'hrl).sg.len : Nat) : Int)) (fun hlt => cond_d (fun hpos => ?_) fun _ => c15) fun _ => c15⟩
  unfold trystlaw24_MixRounds.c17
  obtain ⟨qg, hqg, hcg⟩ := hG.get (i := (k : Int)) (by omega) (by omega)
  obtain ⟨u1, u2, u3⟩ := umod ((rl[r]'hrl).again[((k : Nat) : Int).toNat]?.getD 0) (n := onions.length) (by omega) (by omega)
  rw [← hon] at u1 u2 u3
  have hI : Ints .i64 w1 onS onions := by obtain ⟨M, ha, _⟩ := h1; exact rowNow 8 rfl ha.s (by omega)
  refine ⟨by omega, by omega, q, hq, _, _, _, d1', by omega, hlt, qg, hqg, _, hcg, u3, u1, u2, ?_⟩
  generalize IntKind.i64.wrap (Int.tmod (IntKind.u64.wrap ((rl[r]'hrl).again[((k : Nat) : Int).toNat]?.getD 0)) (IntKind.u64.wrap ((onS.len : Nat) : Int))) = mm at u1 u2 ⊢
  obtain ⟨qo, hqo, hco⟩ := hI.get (i := mm) u1 (by omega)
  refine ⟨qo, hqo, onions[mm.toNat]?.getD 0, hco, ?_⟩
  intro w2
  obtain ⟨s', w3, run, h2⟩ := h1.more_at 8 rfl (onions[mm.toNat]?.getD 0) (by omega)
  refine ⟨_, _, _, w3, run, ?_⟩
  dsimp only
  rw [inc (by omega)]
  refine ⟨⟨rfl, rfl, rfl, rfl, rfl, rfl, rfl, rfl, rfl, k + 1, inL ++ [onions[mm.toNat]?.getD 0], rfl, by omega, by rw [List.length_append]; simp; omega, fun x hx => ?_, h2⟩, by (try dsimp only); omega⟩
  rw [List.mem_append, List.mem_singleton] at hx
  rcases hx with hx | rfl
  · exact hin x hx
  · exact h0.onin _ (getD_mem (by omega))

/-- the payloads -/
theorem mr_c21 (hRR : ∀ w, Below W.heap.size W w → RR (.bool true) w) (hm : m ≤ 12) (hn : n ≤ 100000) (h0 : Rnd0 B st onions secs pubs m) (hRd : Rnds W rounds1 rl) (hrl : r < rl.length) (hr6 : rl.length ≤ 6) (hpl : (rl[r]'hrl).perms.length ≤ 10) (hgl : (rl[r]'hrl).again.length ≤ 30) (hal : (rl[r]'hrl).asks.length ≤ 30)
    (h : PairAt W w pp a b A B n (pmxL stb sr ss st ++ (ownA onS onions :: ownA seS secs :: ownA puS pubs :: [])))
    (hN : ∀ onS onions sr ss st A B w', PairAt W w' pp a b A B (n + 1000) (pmxL stb sr ss st ++ (ownA onS onions :: ownA seS secs :: ownA puS pubs :: [])) → Rnd0 B st onions secs pubs (m + 2) → N2 rounds1 raw (some pp) (some b) seS puS stb onS (IntKind.i64.wrap ((r : Int) + 1)) w') :
    trystlaw24_MixRounds.c21 RR N2 rounds1 raw (some pp) (some b) seS puS onS stb r w := by
  have hrs : rounds1.len = rl.length := hRd.len
  have hdrop : ∀ {B : List Tm} {on : List Int}, Rnd0 B st on secs pubs m → Rnd0 B st [] secs pubs m := fun h => ⟨h.secl, h.secin, h.publ, h.pubin, by simp, h.regin, h.seenin, h.regl, h.seenl, by simp⟩
  unfold trystlaw24_MixRounds.c21 trystlaw24_MixRounds.l19
  refine ⟨fun t w' => ∃ (k : Nat) (onions inL : List Int) (B : List Tm), t.2.2 = k ∧ k ≤ (rl[r]'hrl).asks.length ∧ inL.length ≤ k ∧ onions.length ≤ 100 * m + k ∧ (∀ x ∈ inL, inT B x) ∧ (∀ x ∈ onions, inT B x) ∧ Rnd0 B st [] secs pubs m ∧ PairAt W w' pp a b A B (n + 12 * k) (pmxL stb sr ss st ++ (ownA t.1 onions :: ownA seS secs :: ownA puS pubs :: ownA t.2.1 inL :: [])), fun t _ => (rl[r]'hrl).asks.length - t.2.2.toNat,
    ⟨0, onions, [], B, rfl, by omega, by simp, h0.onl, by simp, h0.onin, hdrop h0, h.nilEnd⟩, ?_⟩
  clear h h0
  rintro ⟨onS, inS, _⟩ w1 ⟨k, onions, inL, B, rfl, hk, hil, honl, hin, hon, h0, h1⟩
  show trystlaw24_MixRounds.b19 _ _ _ _ _ _ _ _ _ _ _ onS inS (k : Int) w1
  have h1 : PairAt W w1 pp a b A B (n + 12 * k) (pmxL stb sr ss st ++ (ownA onS onions :: ownA seS secs :: ownA puS pubs :: ownA inS inL :: [])) := h1
  have cells : ∀ w', Below W.heap.size W w' → ∃ q, rounds1.a = some q ∧ w'.cell? (q.add (((r : Nat) : Int).toNat * 3)) = some (.slice (rl[r]'hrl).sa.a (rl[r]'hrl).sa.len (rl[r]'hrl).sa.cap) ∧ Asks w' (rl[r]'hrl).sa (rl[r]'hrl).asks := fun w' hb => by
    obtain ⟨q, hq, d0, _, _, hA, _, _⟩ := Rnds.get (hRd.keep RndC.stab hb) hrl
    exact ⟨q, hq, by rw [Int.toNat_natCast]; exact d0, hA⟩
  obtain ⟨q, hq, d0, hA⟩ := cells w1 h1.base
  have hasl := hA.len
  unfold trystlaw24_MixRounds.b19
  refine ⟨by omega, by omega, q, hq, _, _, _, d0, cond_d (p := ((k : Nat) : Int) < (((rl[r]'hrl).sa.len : Nat) : Int)) (fun hlt => ?_) fun hge => ?_⟩
  · have hkl : k < (rl[r]'hrl).asks.length := by omega
    obtain ⟨qa, hqa, e0, e1, e2, e3, hkd⟩ := hA.get hkl
    refine ⟨by omega, by omega, q, hq, _, _, _, d0, by omega, hlt, qa, hqa, _, by rw [Int.toNat_natCast]; exact e0, _, by rw [Int.toNat_natCast]; exact e1, _, by rw [Int.toNat_natCast]; exact e2, _, by rw [Int.toNat_natCast]; exact e3, ?_⟩
    refine (ask_at h1 ((rl[r]'hrl).asks[k]) hkd).mono ?_
    rintro _ w2 ⟨y, B1, rfl, h2, g1⟩
    refine ⟨_, rfl, ?_⟩
    obtain ⟨M, h3, hp, hnb, l1, l2⟩ := h2.toB
    refine (rhas_new [y] h3 (by simp)).mono ?_
    rintro _ w3 ⟨rfl, h4⟩
    have h5 : PairAt W w3 pp a b A B1 (n + 12 * k + 2) (pmxL stb sr ss st ++ (ownA onS onions :: ownA seS secs :: ownA puS pubs :: ownA inS inL :: [])) := ⟨M, (h4.front 2 rfl).front 2 rfl, hp, hnb, l1, l2⟩
    have h01 := h0.mono g1.ext
    -- one more that comes
    have c20 : ∀ {w' : World} {onS' : Sl} {on' : List Int} {B' : List Tm} {x : Int}, Rnd0 B' st [] secs pubs m → (∀ x ∈ inL, inT B' x) → inT B' x → on'.length ≤ 100 * m + (k + 1) → (∀ x ∈ on', inT B' x) → PairAt W w' pp a b A B' (n + 12 * (k + 1)) (pmxL stb sr ss st ++ (ownA onS' on' :: ownA seS secs :: ownA puS pubs :: ownA inS inL :: [])) →
        trystlaw24_MixRounds.c20 RR N2 (fun rounds1' raw2' p7' b9' secrets10' pubs11' st15' r16' onions12' in17' i18' w' => (rounds1' = rounds1 ∧ raw2' = raw ∧ p7' = some pp ∧ b9' = some b ∧ secrets10' = seS ∧ pubs11' = puS ∧ st15' = stb ∧ r16' = (r : Int) ∧ ∃ (k : Nat) (onions inL : List Int) (B : List Tm), i18' = k ∧ k ≤ (rl[r]'hrl).asks.length ∧ inL.length ≤ k ∧ onions.length ≤ 100 * m + k ∧ (∀ x ∈ inL, inT B x) ∧ (∀ x ∈ onions, inT B x) ∧ Rnd0 B st [] secs pubs m ∧ PairAt W w' pp a b A B (n + 12 * k) (pmxL stb sr ss st ++ (ownA onions12' onions :: ownA seS secs :: ownA puS pubs :: ownA in17' inL :: []))) ∧ (rl[r]'hrl).asks.length - i18'.toNat < (rl[r]'hrl).asks.length - ((k : Nat) : Int).toNat)
          rounds1 raw (some pp) (some b) seS puS onS' stb r inS k x w' := by
      intro w' onS' on' B' x hR hi hx hol hoi hP
      unfold trystlaw24_MixRounds.c20
      intro w4
      obtain ⟨s', w5, run, h6⟩ := hP.more_at 8 rfl x (by omega)
      refine ⟨_, _, _, w5, run, ?_⟩
      dsimp only
      rw [inc (by omega)]
      refine ⟨⟨rfl, rfl, rfl, rfl, rfl, rfl, rfl, rfl, k + 1, on', inL ++ [x], B', rfl, by omega, by rw [List.length_append]; simp; omega, hol, fun z hz => ?_, hoi, hR, h6⟩, by omega⟩
      rw [List.mem_append, List.mem_singleton] at hz
      rcases hz with hz | rfl
      · exact hi z hz
      · exact hx
    refine ⟨_, rfl, cond_not (fun hf => ?_) fun ht => ?_⟩
    · dsimp only
      rw [inc (by omega)]
      exact ⟨⟨rfl, rfl, rfl, rfl, rfl, rfl, rfl, rfl, k + 1, onions, inL, B1, rfl, by omega, by omega, by omega, fun x hx => g1.ext.inT (hin x hx), fun x hx => g1.ext.inT (hon x hx), h01, h5.mup (by omega)⟩, by (try dsimp only); omega⟩
    · have hy : inT B1 y := of_decide_eq_true ht y (by simp)
      obtain ⟨q', hq', d0', hA'⟩ := cells w3 h5.base
      obtain ⟨qa', hqa', _, _, _, e3', _⟩ := hA'.get hkl
      refine ⟨by omega, by omega, q', hq', _, _, _, d0', by omega, hlt, qa', hqa', _, by rw [Int.toNat_natCast]; exact e3', cond_not (fun hnr => ?_) fun hra => ?_⟩
      · have eN : IntKind.i64.wrap (IntKind.i64.wrap (10000 + IntKind.i64.wrap (100 * ((r : Nat) : Int))) + ((k : Nat) : Int)) = ((10000 + 100 * r + k : Nat) : Int) := by
          have a1 : IntKind.i64.wrap (100 * ((r : Nat) : Int)) = 100 * ((r : Nat) : Int) := w64 (by omega)
          have a2 : IntKind.i64.wrap (10000 + 100 * ((r : Nat) : Int)) = 10000 + 100 * ((r : Nat) : Int) := w64 (by omega)
          rw [a1, a2, w64 (by omega)]; omega
        rw [eN]
        obtain ⟨M5, h6, hp5, hnb5, l15, l25⟩ := h5.toB
        have hB1l : B1.length ≤ 200000 := by omega
        refine (rmk0 1 ((10000 + 100 * r + k : Nat) : Int) h6).mono ?_
        rintro _ w4 ⟨rfl, h7⟩
        obtain ⟨x, x1, x2, x3, gx⟩ := put_plain' (T := B1) (k := 1) (n := ((10000 + 100 * r + k : Nat) : Int)) (.inl rfl) (by omega) (by omega) (by omega)
        have gxl := gx.len
        have hxin : inT (put B1 ⟨1, ((10000 + 100 * r + k : Nat) : Int), []⟩).1 (put B1 ⟨1, ((10000 + 100 * r + k : Nat) : Int), []⟩).2.1 := by
          rw [x1]
          have := (List.getElem?_eq_some_iff.1 x3).1
          exact ⟨by omega, by omega⟩
        refine ⟨_, rfl, ?_⟩
        generalize (put B1 ⟨1, ((10000 + 100 * r + k : Nat) : Int), []⟩).2.1 = sx at hxin ⊢
        generalize (put B1 ⟨1, ((10000 + 100 * r + k : Nat) : Int), []⟩).1 = B2 at h7 gx gxl hxin
        have h02 := h01.mono gx.ext
        have he : wrapErr B2 pubs sx y = 0 := wrapErr0.2 ⟨h02.publ, fun z hz => (h02.pubin z hz).1, hxin, gx.ext.inT hy, fun z hz => (h02.pubin z hz).2⟩
        refine (rwrap_at h7 (sp := puS) (pubs := pubs) he (by omega) (fun L w' hw => rowNow 9 rfl hw.dropL.s (by have := h02.publ; omega))).mono ?_
        rintro _ w5 ⟨s', rfl, h8⟩
        obtain ⟨X, _, eX, hO, g3⟩ := wrap_in he (by omega)
        have hin3 : inT (wrapT B2 pubs sx y).1 (wrapT B2 pubs sx y).2.1 := by rw [← eX]; exact hO.xin 3 (by omega)
        refine ⟨_, _, _, _, rfl, ?_⟩
        generalize (wrapT B2 pubs sx y).2.1 = o at hin3 ⊢
        generalize (wrapT B2 pubs sx y).1 = B3 at h8 hin3 g3
        have g13 : Grown B1 B3 10 := gx.trans g3
        have h9 : PairAt W w5 pp a b A B3 (n + 12 * k + 2 + 10) (pmxL stb sr ss st ++ (ownA onS onions :: ownA seS secs :: ownA puS pubs :: ownA inS inL :: [])) :=
          PairAt.ofB (M := M5) h8.drop hp5 g13.ext g13.len (g13.nb hnb5) l15 l25
        have hall := g1.ext.trans g13.ext
        intro w6
        obtain ⟨s6, w7, run, h10⟩ := h9.more_at 5 rfl o (by omega)
        refine ⟨_, _, _, w7, run, ?_⟩
        refine c20 (on' := onions ++ [o]) (h0.mono hall) (fun z hz => hall.inT (hin z hz)) hin3 (by rw [List.length_append]; simp; omega) (fun z hz => ?_) (h10.mup (by omega))
        rw [List.mem_append, List.mem_singleton] at hz
        rcases hz with hz | rfl
        · exact hall.inT (hon z hz)
        · exact hin3
      · exact c20 h01 (fun z hz => g1.ext.inT (hin z hz)) hy (by omega) (fun z hz => g1.ext.inT (hon z hz)) (h5.mup (by omega))
  · have h0' : Rnd0 B st onions secs pubs (m + 1) := ⟨h0.secl, h0.secin, h0.publ, h0.pubin, hon, h0.regin, h0.seenin, by have := h0.regl; omega, fun j hj => by have := h0.seenl j hj; omega, by omega⟩
    refine mr_c18 hRR (by omega) (by omega) h0' hin (by omega) hRd hrl hpl hgl h1 fun sr ss st A B w' h2 h3 => hN _ _ _ _ _ _ _ _ (h2.mup (by omega)) h3
end

end Go.Proofs.YtoclhecldmahiaaDoor

/-
  MixRounds.
-/
set_option linter.unusedVariables false
set_option linter.unusedSimpArgs false
namespace Go.Proofs.YtoclhecldmahiaaDoor
open Go.Lf Go.RowKit

theorem put_pub' {T : List Tm} {x : Int} (hx : inT T x) (hl : T.length ≤ 1000000) : inT (put T ⟨5, 0, [x]⟩).1 (put T ⟨5, 0, [x]⟩).2.1 ∧ (tmAt (put T ⟨5, 0, [x]⟩).1 (put T ⟨5, 0, [x]⟩).2.1).kind = 5 ∧ Grown T (put T ⟨5, 0, [x]⟩).1 1 := by
  have he : errOf T ⟨5, 0, [x]⟩ = 0 := errOk (by simp) (by simp) (.inr rfl) (by simp [least]) (by simp [mostOf]) (by simpa using hx)
  obtain ⟨_, h2, h3⟩ := put_at he (by omega)
  exact ⟨h2, by rw [h3], Grown.put _ (by simp)⟩

set_option maxRecDepth 100000 in
theorem rounds_spec {W : World} (hT : PT W.heap.size W) {sl : Sl} {l : List Stp} (hS : Stps W sl l) {rs : Sl} {rl : List RndI} (hRd : Rnds W rs rl) (raw : Bool) :
    CallsV Tryd.prog n_trystlaw24_MixRounds #[.slice sl.a sl.len sl.cap, .slice rs.a rs.len rs.cap, .bool raw] W fun v w' => v = .bool true ∧ Below W.heap.size W w' := by
  refine trystlaw24_MixRounds.lift ?_
  unfold trystlaw24_MixRounds.main
  have hrs : rs.len = rl.length := hRd.len
  refine (heavy_spec hS).mono ?_
  rintro _ _ ⟨rfl, rfl⟩
  refine ⟨_, rfl, cond_c (fun _ => ⟨rfl, Below.refl _ _⟩) fun hh => cond_d (fun _ => ⟨rfl, Below.refl _ _⟩) fun h6 => ?_⟩
  generalize hRR : (fun (v : Value) (w' : World) => v = .bool true ∧ Below W.heap.size W w') = RR
  have hRR' : ∀ w, Below W.heap.size W w → RR (.bool true) w := fun w hb => by rw [← hRR]; exact ⟨rfl, hb⟩
  unfold trystlaw24_MixRounds.c24
  refine (pairs_at hT hS hh).mono ?_
  rintro _ w1 ⟨pp, a, b, rfl, h1, c0, c1⟩
  have hTl := buildT_len l
  have hTn : Nb (buildT l) := build_n hS
  generalize buildT l = T at h1 hTl hTn
  have P1 : PairAt W w1 pp a b T T 300 [] := ⟨[], h1, ⟨Nat.zero_le _, fun n x h => by simp at h⟩, hTn, by simp; omega, by omega⟩
  refine ⟨_, _, rfl, cond_f' rfl ⟨pp, rfl, _, c1, ?_⟩⟩
  have P2 : PairAt W w1 pp a b T T 300 [ownA ⟨none, 0, 0⟩ [], ownA ⟨none, 0, 0⟩ [], ownA ⟨none, 0, 0⟩ []] := P1.nilEnd.nilEnd.nilEnd
  unfold trystlaw24_MixRounds.l23
  refine ⟨fun t w' => ∃ (k : Nat) (S Pu : List Int) (B : List Tm), t.2.2 = k ∧ k ≤ 3 ∧ S.length = k ∧ Pu.length = k ∧ (∀ x ∈ S, inT B x) ∧ (∀ x ∈ Pu, inT B x ∧ (tmAt B x).kind = 5) ∧ PairAt W w' pp a b T B (300 + 2 * k) [ownA ⟨none, 0, 0⟩ [], ownA t.1 S, ownA t.2.1 Pu], fun t _ => 3 - t.2.2.toNat,
    ⟨0, [], [], T, rfl, by omega, rfl, rfl, by simp, by simp, P2⟩, ?_⟩
  clear P2 P1 h1 c0 c1
  rintro ⟨seS, puS, _⟩ w2 ⟨k, S, Pu, B, rfl, hk, hSl, hPl, hSi, hPi, P2⟩
  show trystlaw24_MixRounds.b23 RR _ rs raw (some pp) (some b) ⟨none, 0, 0⟩ seS puS (k : Int) w2
  have P2 : PairAt W w2 pp a b T B (300 + 2 * k) [ownA ⟨none, 0, 0⟩ [], ownA seS S, ownA puS Pu] := P2
  unfold trystlaw24_MixRounds.b23
  refine cond_d (p := ((k : Nat) : Int) < 3) (fun hlt => ?_) fun hge => ?_
  · have eN : IntKind.i64.wrap (9000 + ((k : Nat) : Int)) = ((9000 + k : Nat) : Int) := by rw [w64 (by omega)]; omega
    rw [eN]
    obtain ⟨M, h3, hp, hnb, l1, l2⟩ := P2.toB
    refine (rmk0 1 ((9000 + k : Nat) : Int) h3).mono ?_
    rintro _ w3 ⟨rfl, h4⟩
    obtain ⟨x, x1, x2, x3, gx⟩ := put_plain' (T := B) (k := 1) (n := ((9000 + k : Nat) : Int)) (.inl rfl) (by omega) (by omega) (by omega)
    have gxl := gx.len
    have hxin : inT (put B ⟨1, ((9000 + k : Nat) : Int), []⟩).1 (put B ⟨1, ((9000 + k : Nat) : Int), []⟩).2.1 := by
      rw [x1]
      have := (List.getElem?_eq_some_iff.1 x3).1
      exact ⟨by omega, by omega⟩
    refine ⟨_, rfl, ?_⟩
    generalize (put B ⟨1, ((9000 + k : Nat) : Int), []⟩).2.1 = sx at hxin ⊢
    generalize (put B ⟨1, ((9000 + k : Nat) : Int), []⟩).1 = B2 at h4 gx gxl hxin
    have P4 : PairAt W w3 pp a b T B2 (300 + 2 * k + 1) [ownA ⟨none, 0, 0⟩ [], ownA seS S, ownA puS Pu] := PairAt.ofB h4 hp gx.ext gx.len (gx.nb hnb) l1 l2
    intro w4
    obtain ⟨s5, w5, run, P5⟩ := P4.more_at 1 rfl sx (by omega)
    refine ⟨_, _, _, w5, run, ?_⟩
    obtain ⟨M5, h5, hp5, hnb5, l15, l25⟩ := P5.toB
    refine (rpub sx h5).mono ?_
    rintro _ w6 ⟨rfl, h6a⟩
    obtain ⟨y1, y2, gy⟩ := put_pub' hxin (by omega)
    refine ⟨_, rfl, ?_⟩
    generalize (put B2 ⟨5, 0, [sx]⟩).2.1 = px at y1 y2 ⊢
    generalize (put B2 ⟨5, 0, [sx]⟩).1 = B3 at h6a y1 y2 gy
    have P6 : PairAt W w6 pp a b T B3 (300 + 2 * k + 1 + 1) [ownA ⟨none, 0, 0⟩ [], ownA s5 (S ++ [sx]), ownA puS Pu] := PairAt.ofB h6a hp5 gy.ext gy.len (gy.nb hnb5) l15 l25
    intro w7
    obtain ⟨s8, w8, run8, P8⟩ := P6.more_at 2 rfl px (by omega)
    refine ⟨_, _, _, w8, run8, ?_⟩
    dsimp only
    rw [inc (by omega)]
    have hE := gx.ext.trans gy.ext
    refine ⟨⟨rfl, rfl, rfl, rfl, rfl, k + 1, S ++ [sx], Pu ++ [px], B3, rfl, by omega, by rw [List.length_append]; simp; omega, by rw [List.length_append]; simp; omega, fun z hz => ?_, fun z hz => ?_, P8.mup (by omega)⟩, by (try dsimp only); omega⟩
    · rw [List.mem_append, List.mem_singleton] at hz
      rcases hz with hz | rfl
      · exact hE.inT (hSi z hz)
      · exact gy.ext.inT hxin
    · rw [List.mem_append, List.mem_singleton] at hz
      rcases hz with hz | rfl
      · exact ⟨hE.inT (hPi z hz).1, by rw [tmAt_ext hE (hPi z hz).1]; exact (hPi z hz).2⟩
      · exact ⟨y1, y2⟩
  · have hk3 : k = 3 := by omega
    subst hk3
    unfold trystlaw24_MixRounds.c22
    intro w3
    have P3 : PairAt W w3 pp a b T B 306 (boxA (newA w2) nil4 :: [ownA ⟨none, 0, 0⟩ [], ownA seS S, ownA puS Pu]) := P2.mbox 127 nil4
    clear_value w3
    generalize newA w2 = stb at P3 ⊢
    have P4 : PairAt W w3 pp a b T B 306 (pmxL stb ⟨none, 0, 0⟩ (fun _ => ⟨none, 0, 0⟩) ⟨[], fun _ => []⟩ ++ (ownA ⟨none, 0, 0⟩ [] :: ownA seS S :: ownA puS Pu :: [])) := by
      obtain ⟨M, h4, hr⟩ := P3
      have h5 := PairAt.addK (K := mixL ⟨none, 0, 0⟩ (fun _ => ⟨none, 0, 0⟩) ⟨[], fun _ => []⟩) h4.nil.nil.nil.regNil hr
      exact h5.perm (List.perm_middle (l₁ := mixL ⟨none, 0, 0⟩ (fun _ => ⟨none, 0, 0⟩) ⟨[], fun _ => []⟩))
    have h0 : Rnd0 B ⟨[], fun _ => []⟩ [] S Pu 0 := ⟨hSl, hSi, hPl, hPi, by simp, by simp, by simp, by simp, by simp, by simp⟩
    unfold trystlaw24_MixRounds.l2
    refine ⟨fun t w' => ∃ (k : Nat) (on : List Int) (sr : Sl) (ss : Nat → Sl) (st : MxS) (A B : List Tm), t.2 = k ∧ k ≤ rl.length ∧ Rnd0 B st on S Pu (2 * k) ∧ PairAt W w' pp a b A B (306 + 1000 * k) (pmxL stb sr ss st ++ (ownA t.1 on :: ownA seS S :: ownA puS Pu :: [])), fun t _ => rl.length - t.2.toNat,
      ⟨0, [], _, _, _, T, B, rfl, by omega, h0, P4⟩, ?_⟩
    clear P4 P3 P2 h0 hSi hPi
    rintro ⟨onS, _⟩ w4 ⟨k, on, sr, ss, st, A, B, rfl, hk, h0, P⟩
    show trystlaw24_MixRounds.b2 RR _ rs raw (some pp) (some b) seS puS stb onS (k : Int) w4
    have P : PairAt W w4 pp a b A B (306 + 1000 * k) (pmxL stb sr ss st ++ (ownA onS on :: ownA seS S :: ownA puS Pu :: [])) := P
    unfold trystlaw24_MixRounds.b2
    refine cond_d (p := ((k : Nat) : Int) < ((rs.len : Nat) : Int)) (fun hlt => ?_) fun hge => ?_
    · have hkl : k < rl.length := by omega
      obtain ⟨q, hq, d0, d1, d2, e0, e1, e2⟩ := Rnds.get (hRd.keep RndC.stab P.base) hkl
      have f0 := e0.len
      have f1 := e1.len
      have f2 := e2.len
      refine ⟨by omega, hlt, q, hq, _, _, _, by rw [Int.toNat_natCast]; exact d0, cond_d (fun _ => hRR' _ P.base) fun g0 => ⟨by omega, hlt, q, hq, _, _, _, by rw [Int.toNat_natCast]; exact d1, cond_d (fun _ => hRR' _ P.base) fun g1 => ⟨by omega, hlt, q, hq, _, _, _, by rw [Int.toNat_natCast]; exact d2, cond_d (fun _ => hRR' _ P.base) fun g2 => ?_⟩⟩⟩
      refine mr_c21 hRR' (by omega) (by omega) h0 hRd hkl (by omega) (by omega) (by omega) (by omega) P fun onS' on' sr' ss' st' A' B' w' h' hR' => ?_
      rw [inc (by omega)]
      exact ⟨⟨rfl, rfl, rfl, rfl, rfl, rfl, rfl, k + 1, on', sr', ss', st', A', B', rfl, by omega, hR', h'.mup (by omega)⟩, by (try dsimp only); omega⟩
    · unfold trystlaw24_MixRounds.c1
      obtain ⟨M, h5, _⟩ := P
      refine (wakes24 h5).mono ?_
      rintro _ w5 ⟨rfl, h6⟩
      exact ⟨true, rfl, hRR' _ h6.b⟩

/-! how rounds are handed in -/

def RowC (w : World) (cs : List Value) (z : Sl × List Int) : Prop := cs = [.slice z.1.a z.1.len z.1.cap] ∧ Ints .i64 w z.1 z.2
theorem reads_row : Reads Tryd.prog 29 RowC := (reads_ints Tryd.underlying29 Tryd.underlying3 (by kernel_rfl)).mono fun w cs xs ⟨s, e, h⟩ => ⟨(s, xs), e, h⟩
theorem Rw.ofEls {w : World} {s : Sl} {Z : List (Sl × List Int)} (h : Els 1 RowC w s Z) : Rw w s Z :=
  ⟨h.len, fun i z hz => by
    obtain ⟨p, cs, hp, _, hc, he, hI⟩ := h.el i z hz
    subst he
    exact ⟨p, hp, by have := hc 0 _ rfl; simpa using this, hI⟩⟩

set_option maxRecDepth 100000 in
theorem reads_round : Reads Tryd.prog 130 RndC := by
  constructor
  intro H enc w base sp held fuel cs x h
  obtain ⟨hl, n, hf⟩ := struct_fields Tryd.underlying130 h
  have hl : cs.length = 3 := hl
  match cs, hl with
  | [c0, c1, c2], _ =>
    simp only [List.mem_cons, List.not_mem_nil, or_false, forall_eq_or_imp, forall_eq] at hf
    obtain ⟨⟨y0, h0⟩, ⟨y1, h1⟩, ⟨y2, h2⟩⟩ := hf
    obtain ⟨l0, s0, e0, g0⟩ := (reads_slice Tryd.underlying65 (n := 4) (by kernel_rfl) (by omega) reads_ask fun _ _ _ h => h.len).go (cs := [c0]) h0
    obtain ⟨l1, s1, e1, g1⟩ := (reads_ints Tryd.underlying29 Tryd.underlying3 (by kernel_rfl)).go (cs := [c1]) h1
    obtain ⟨l2, s2, e2, g2⟩ := (reads_slice Tryd.underlying128 (n := 1) (by kernel_rfl) (by omega) reads_row fun _ _ _ h => by rw [h.1]; rfl).go (cs := [c2]) h2
    simp only [List.cons.injEq, and_true] at e0 e1 e2
    subst e0 e1 e2
    exact ⟨⟨l0, l1, l2, s0, s1, s2⟩, rfl, g0, g1, Rw.ofEls g2⟩

set_option maxRecDepth 100000 in
theorem rounds_in {H : Type} {enc : TypeId × Value → H} {w : World} {base b0 : Nat} {r : Reach} {sp : Nat → Bool} {held : Bool} {v : Value} {d : DataW H} {ps : List MemPlace} (hv : Value.okWide Tryd.prog w r b0 124 v)
    (h : DataW.Trod enc Tryd.prog w base sp held 124 v d ps) : ∃ (s : Sl) (l : List RndI), v = .slice s.a s.len s.cap ∧ Rnds w s l := by
  obtain ⟨a, len, cap, rfl⟩ := WideShapes.okWide_slice Tryd.underlying124 hv
  obtain ⟨l, s, e, hg⟩ := (reads_slice Tryd.underlying124 (n := 3) (by kernel_rfl) (by omega) reads_round fun _ _ _ h => by rw [h.1]; rfl).open h
  have e : [Value.slice a len cap] = [.slice s.a s.len s.cap] := e
  exact ⟨s, l, by simpa using e, hg⟩

end Go.Proofs.YtoclhecldmahiaaDoor
