/-
  Know: of all atoms everything, of nothing what is made of words alone.
-/
import Derived.Test.YtoclhecldmahiaaDoorKnN
set_option linter.unusedVariables false
set_option linter.unusedVariables false
set_option linter.unusedSimpArgs false
namespace Go.Proofs.YtoclhecldmahiaaDoor
open Go.Lf Go.RowKit

/-- a page's node -/
theorem pg_at {B : Nat} {w : World} {p : Addr} {N : Nds} {R : List Asn} (h : Sep B w (pgA p N :: R)) : ∃ a c, w.cell? p = some (.slice a N.length c) ∧ ∀ (i : Nat) (x : Tm × Sl), N[i]? = some x → ∃ q, a = some q ∧
    w.cell? (q.add (i * 3)) = some (.int .i64 x.1.kind) ∧ w.cell? ((q.add (i * 3)).add 1) = some (.int .i64 x.1.n) ∧ w.cell? ((q.add (i * 3)).add 2) = some (.slice x.2.a x.2.len x.2.cap) ∧ Ints .i64 w x.2 x.1.args := by
  obtain ⟨sl, ⟨hok, hcaps⟩, hS⟩ := h.unfold
  have hS : Sep B w (pgL 98 p N sl ++ R) := hS
  have hsl : sl.len = N.length := (hS.rowLen 1 rfl).1
  refine ⟨sl.a, sl.cap, by rw [← hsl]; exact hS.cell0 0 rfl rfl, fun i x hx => ?_⟩
  obtain ⟨q, hq, hc⟩ := hS.rowGet 1 (by omega) nodeC.w rfl hx
  have hc0 := hc 0 _ rfl
  rw [add_zero] at hc0
  exact ⟨q, hq, hc0, hc 1 _ rfl, hc 2 _ rfl, argsAt 2 rfl hS hx⟩

theorem buildAt {W : World} (hT : PT W.heap.size W) {s : Sl} {l : List Stp} (h : Stps W s l) (hh : heavyL l = false) : CallsV Tryd.prog n_trystlaw10_Build #[.slice s.a s.len s.cap] W fun v w' => ∃ a b N, v = .tuple #[.pointer (some a), .pointer (some b), .bool true] ∧
      terms N = buildT l ∧ At W w' [arT a (buildT l), pgA b N] := by
  refine (lawBuild hT h hh).mono ?_
  rintro _ w' ⟨a, b, Na, Nb, rfl, h1, h2, h3, h4⟩
  exact ⟨a, b, Nb, rfl, h2, ⟨Sep.arIn h3 h1, h4, hT⟩⟩

set_option maxRecDepth 100000 in
theorem made_spec {W : World} (hT : PT W.heap.size W) {s : Sl} {l : List Stp} (h : Stps W s l) :
    CallsV Tryd.prog n_trystlaw11_KnowMade #[.slice s.a s.len s.cap] W fun v w' => v = .bool true ∧ Below W.heap.size W w' := by
  refine trystlaw11_KnowMade.lift ?_
  unfold trystlaw11_KnowMade.main
  refine (heavy_spec h).mono ?_
  rintro _ _ ⟨rfl, rfl⟩
  refine ⟨_, rfl, cond_c (fun _ => ⟨rfl, Below.refl _ _⟩) fun hh => ?_⟩
  refine (buildAt hT h hh).mono ?_
  rintro _ w1 ⟨a, b, N, rfl, hN, h1⟩
  refine ⟨_, _, _, rfl, cond_f' rfl ?_⟩
  obtain ⟨T, hTe⟩ : ∃ T, T = buildT l := ⟨_, rfl⟩
  rw [← hTe] at hN h1
  have hok := h1.ok
  have hfew := hok.few
  have hkt := hok.kt
  have hNl : N.length = T.length := by rw [← terms_len, hN]
  generalize hRR : (fun (v : Value) (w' : World) => v = .bool true ∧ Below W.heap.size W w') = RR
  obtain ⟨ba, bc, hbc, _⟩ := pg_at h1.s.swap
  refine ⟨b, rfl, _, _, _, hbc, by omega, by omega, by omega, by omega, ?_⟩
  intro w2
  obtain ⟨h2s, hb2⟩ := h1.s.bools (n := N.length) (by omega)
  have h2 : At W w2 [boolA ⟨some (newA w1), N.length, N.length⟩ (List.replicate N.length false), arT a T, pgA b N] := h1.go h2s hb2
  generalize hsp : (⟨some (newA w1), N.length, N.length⟩ : Sl) = sp at h2
  have hspE : (⟨some (newA w1), (((N.length : Nat) : Int)).toNat, (((N.length : Nat) : Int)).toNat⟩ : Sl) = sp := hsp
  rw [hspE]
  clear_value w2
  have nodeN : ∀ i, i < T.length → ∃ sx, N[i]? = some (tmAt T (i : Int), sx) := fun i hi => by
    obtain ⟨sx, hx⟩ := node_at (N := N) (i := i) (by rw [hN]; exact hi)
    rw [hN] at hx
    exact ⟨sx, hx⟩
  have pgF : ∀ {y : World} {L : List Asn}, Sep W.heap.size y (L ++ [pgA b N]) → ∃ a c, y.cell? b = some (.slice a N.length c) ∧ ∀ (i : Nat) (x : Tm × Sl), N[i]? = some x → ∃ q, a = some q ∧
    y.cell? (q.add (i * 3)) = some (.int .i64 x.1.kind) ∧ y.cell? ((q.add (i * 3)).add 1) = some (.int .i64 x.1.n) ∧ y.cell? ((q.add (i * 3)).add 2) = some (.slice x.2.a x.2.len x.2.cap) ∧ Ints .i64 y x.2 x.1.args := fun hs => pg_at hs.dropL
  unfold trystlaw11_KnowMade.l5
  refine ⟨fun x w' => ∃ (i : Nat) (pl : List Bool) (ats : List Nat), x.2 = i ∧ i ≤ T.length ∧ pl.length = T.length ∧ (∀ j, j < i → (pl[j]?.getD false = true ↔ Md T j)) ∧ (∀ y, y ∈ ats ↔ y < i ∧ kd T y = 1) ∧ ats.length ≤ i ∧ At W w' [boolA sp pl, ownA x.1 (toI ats), arT a T, pgA b N], fun x _ => T.length - x.2.toNat,
    ⟨0, List.replicate N.length false, [], rfl, Nat.zero_le _, by simp [hNl], by simp, by simp, by simp, h2.nil.swap⟩, ?_⟩
  rintro ⟨sa, _⟩ w3 ⟨i, pl, ats, rfl, hi, hpl, hpm, hat, hal, h3⟩
  show trystlaw11_KnowMade.b5 RR _ (some a) (some b) sp sa (i : Int) w3
  unfold trystlaw11_KnowMade.b5
  obtain ⟨ba, bc, hbc, hnode⟩ := pgF (L := [_, _, _]) h3.s
  refine ⟨b, rfl, _, _, _, hbc, cond_d (p := ((i : Nat) : Int) < ((N.length : Nat) : Int)) (fun hlt => ?_) fun hge => ?_⟩
  · have hi' : i < T.length := by omega
    obtain ⟨sx, hx⟩ := nodeN i hi'
    obtain ⟨q, hq, c0, c1, c2, _⟩ := hnode i _ hx
    refine ⟨b, rfl, _, _, _, hbc, by omega, hlt, q, hq, _, by rw [Int.toNat_natCast]; exact c0, _, by rw [Int.toNat_natCast]; exact c1, _, _, _, by rw [Int.toNat_natCast]; exact c2, ?_⟩
    intro w4
    obtain ⟨r4, h5s, hb5⟩ := Sep.tmp3 h3.s 98 (.int .i64 0) (.int .i64 0) (.slice none 0 0) (.int .i64 (tmAt T (i : Int)).kind) (.int .i64 (tmAt T (i : Int)).n) (.slice sx.a sx.len sx.cap)
    refine ⟨r4, ?_⟩
    intro w5
    have h5 : At W w5 [boxA (newA w3) (tmC (tmAt T (i : Int)) sx), boolA sp pl, ownA sa (toI ats), arT a T, pgA b N] := h3.go h5s hb5
    clear_value w5
    generalize newA w3 = tb at h5 ⊢
    have hspl : sp.len = pl.length := (h5.s.rowLen 1 rfl).1
    obtain ⟨qp, hqp, _⟩ := h5.s.boolAt 1 rfl (j := i) (by omega)
    obtain ⟨wr5, h6s, hb6⟩ := h5.s.boolSet 1 rfl hqp (j := i) (by omega) (kd T i != 1)
    refine ⟨_, h5.s.cell0 0 rfl rfl, by omega, by omega, qp, hqp, by rw [Int.toNat_natCast]; exact wr5, ?_⟩
    rw [Int.toNat_natCast]
    intro w6
    have h6 : At W w6 [boxA tb (tmC (tmAt T (i : Int)) sx), boolA sp (pl.set i (kd T i != 1)), ownA sa (toI ats), arT a T, pgA b N] := h5.go h6s hb6
    clear_value w6
    have harl := ar_len T i
    have hlenx : sx.len = (tmAt T (i : Int)).args.length := by
      obtain ⟨_, _, _, hn⟩ := pgF (L := [_, _, _, _]) h6.s
      obtain ⟨_, _, _, _, _, hI⟩ := hn i _ hx
      exact hI.len
    unfold trystlaw11_KnowMade.l7
    refine ⟨fun t w' => ∃ (k : Nat) (pl' : List Bool), t = k ∧ k ≤ (ar T i).length ∧ pl'.length = T.length ∧ (∀ j, j ≠ i → pl'[j]? = pl[j]?) ∧ (pl'[i]?.getD false = true ↔ kd T i ≠ 1 ∧ ∀ x ∈ (ar T i).take k, Md T x) ∧
        At W w' [boxA tb (tmC (tmAt T (i : Int)) sx), boolA sp pl', ownA sa (toI ats), arT a T, pgA b N], fun t _ => (ar T i).length - t.toNat,
      ⟨0, _, rfl, Nat.zero_le _, by simp [hpl], fun j hj => by rw [List.getElem?_set_ne (fun e => hj e.symm)], ?_, h6⟩, ?_⟩
    · rw [List.getElem?_set_self (by omega)]
      simp
    rintro _ w7 ⟨k, pl', rfl, hk, hpl', hold, hpi, h7⟩
    unfold trystlaw11_KnowMade.b7
    refine ⟨_, _, _, h7.s.cell 0 rfl 2 rfl, cond_d (p := ((k : Nat) : Int) < ((sx.len : Nat) : Int)) (fun hkl => ?_) fun hkl => ?_⟩
    · have hk' : k < (ar T i).length := by omega
      have hil := (inside_len hok hi').2.2.2
      have hxi := hkt.down i hi' _ (List.getElem_mem hk')
      obtain ⟨qp, hqp, hcp⟩ := h7.s.boolAt 1 rfl (j := i) (by omega)
      have htk : ∀ P : Nat → Prop, (∀ x ∈ (ar T i).take (k + 1), P x) ↔ (∀ x ∈ (ar T i).take k, P x) ∧ P (ar T i)[k] := fun P => by
        rw [List.take_succ_eq_append_getElem hk']
        simp only [List.mem_append, List.mem_singleton]
        exact ⟨fun h => ⟨fun x hx => h x (.inl hx), h _ (.inr rfl)⟩, fun h x hx => hx.elim (h.1 x) fun e => e ▸ h.2⟩
      refine ⟨by omega, by omega, qp, hqp, _, by rw [Int.toNat_natCast]; exact hcp, cond_c (fun hb1 => ?_) fun hb0 => ?_⟩
      · obtain ⟨_, _, _, hn7⟩ := pgF (L := [_, _, _, _]) h7.s
        obtain ⟨_, _, _, _, _, hI7⟩ := hn7 i _ hx
        obtain ⟨qx, hqx, hcx⟩ := hI7.get (i := (k : Int)) (by omega) hkl
        obtain ⟨g1, _⟩ := arg_n hok hi' (j := k) (by omega)
        rw [List.getElem?_eq_getElem hk', Option.getD_some] at g1
        have hcx : w7.cell? (qx.add (k : Int).toNat) = some (.int .i64 (((ar T i)[k] : Nat) : Int)) := by rw [hcx, Int.toNat_natCast]; exact congrArg (fun z => some (Value.int .i64 z)) g1
        obtain ⟨qy, hqy, hcy⟩ := h7.s.boolAt 1 rfl (j := (ar T i)[k]) (by omega)
        obtain ⟨wr8, h8s, hb8⟩ := h7.s.boolSet 1 rfl hqp (j := i) (by omega) (pl'[(ar T i)[k]]?.getD false)
        refine ⟨_, _, _, h7.s.cell 0 rfl 2 rfl, by omega, hkl, qx, hqx, _, hcx, by omega, by omega, qy, hqy, _, by rw [Int.toNat_natCast]; exact hcy, by omega, by omega, qp, hqp, by rw [Int.toNat_natCast]; exact wr8, ?_⟩
        rw [Int.toNat_natCast]
        intro w8
        dsimp only
        rw [inc (by omega)]
        refine ⟨⟨rfl, rfl, rfl, rfl, rfl, rfl, k + 1, pl'.set i (pl'[(ar T i)[k]]?.getD false), rfl, by omega, by simp [hpl'], fun j hj => by rw [List.getElem?_set_ne (fun e => hj e.symm)]; exact hold j hj, ?_, h7.go h8s hb8⟩, by (try dsimp only); omega⟩
        rw [List.getElem?_set_self (by omega), htk, Option.getD_some, hold _ (by omega), hpm _ hxi]
        have := hpi.1 hb1
        exact ⟨fun h => ⟨this.1, this.2, h⟩, fun h => h.2.2⟩
      · obtain ⟨wr8, h8s, hb8⟩ := h7.s.boolSet 1 rfl hqp (j := i) (by omega) false
        refine ⟨by omega, by omega, qp, hqp, by rw [Int.toNat_natCast]; exact wr8, ?_⟩
        rw [Int.toNat_natCast]
        intro w8
        dsimp only
        rw [inc (by omega)]
        refine ⟨⟨rfl, rfl, rfl, rfl, rfl, rfl, k + 1, pl'.set i false, rfl, by omega, by simp [hpl'], fun j hj => by rw [List.getElem?_set_ne (fun e => hj e.symm)]; exact hold j hj, ?_, h7.go h8s hb8⟩, by (try dsimp only); omega⟩
        rw [List.getElem?_set_self (by omega), htk, Option.getD_some]
        simp only [Bool.false_eq_true, false_iff]
        rintro ⟨h1, h2, _⟩
        rw [hpi.2 ⟨h1, h2⟩] at hb0
        cases hb0
    · have hall : (ar T i).take k = ar T i := List.take_of_length_le (by omega)
      rw [hall] at hpi
      have hpm' : ∀ j, j < i + 1 → (pl'[j]?.getD false = true ↔ Md T j) := by
        intro j hj
        by_cases hji : j = i
        · subst hji; rw [hpi, md_step hi']
        · rw [hold j hji]; exact hpm j (by omega)
      unfold trystlaw11_KnowMade.c6
      refine ⟨_, h7.s.cell0 0 rfl rfl, cond_e (fun h1 => ?_) fun h1 => ?_⟩
      · have h1 : kd T i = 1 := h1
        intro w8
        obtain ⟨s9, w9, hr9, h9⟩ := more_at 2 rfl h7 (i : Int) (by rw [toI_len]; omega)
        refine ⟨_, _, _, _, hr9, ?_⟩
        dsimp only
        rw [inc (by omega)]
        refine ⟨⟨rfl, rfl, rfl, i + 1, pl', ats ++ [i], rfl, by omega, hpl', hpm', fun y => ?_, by simp; omega, ?_⟩, by (try dsimp only); omega⟩
        · rw [List.mem_append, List.mem_singleton, hat]
          constructor
          · rintro (⟨h2, h3⟩ | rfl)
            · exact ⟨by omega, h3⟩
            · exact ⟨by omega, h1⟩
          · rintro ⟨h2, h3⟩
            by_cases hy : y = i
            · exact .inr hy
            · exact .inl ⟨by omega, h3⟩
        · rw [toI_app]; exact h9.drop
      · have h1 : kd T i ≠ 1 := h1
        dsimp only
        rw [inc (by omega)]
        refine ⟨⟨rfl, rfl, rfl, i + 1, pl', ats, rfl, by omega, hpl', hpm', fun y => ?_, by omega, h7.drop⟩, by (try dsimp only); omega⟩
        rw [hat]
        constructor
        · rintro ⟨h2, h3⟩; exact ⟨by omega, h3⟩
        · rintro ⟨h2, h3⟩
          have : y ≠ i := fun e => h1 (e ▸ h3)
          exact ⟨by omega, h3⟩
  · have hin : i = T.length := by omega
    subst hin
    unfold trystlaw11_KnowMade.c4
    have h4 : At W w3 [arT a T, boolA sp pl, ownA sa (toI ats), pgA b N] := h3.front 2 rfl
    have hats : ∀ x ∈ toI ats, inT T x := by
      intro x hx
      unfold toI at hx
      obtain ⟨z, hz, rfl⟩ := List.mem_map.1 hx
      have := ((hat z).1 hz).1
      unfold inT; omega
    have hatl : (toI ats).length ≤ 1000000 := by
      rw [toI_len]
      have : T.length ≤ 150 := by
        rw [hTe]
        have : ∀ (l : List Stp) (T : List Tm), (l.foldl (fun T x => (put T (stepT T x)).1) T).length ≤ T.length + l.length := by
          intro l
          induction l with
          | nil => intro T; simp
          | cons x r ih =>
            intro T
            have h1 := ih (put T (stepT T x)).1
            have h2 := put_len1 T (stepT T x)
            rw [List.foldl_cons, List.length_cons]
            omega
        have h1 := this (l.take 150) []
        unfold buildT
        have h2 : (l.take 150).length ≤ 150 := by rw [List.length_take]; omega
        simp only [List.length_nil] at h1
        omega
      omega
    refine (all_at h4 (s := sa) (xs := toI ats) hatl fun L w' hs => rowNow 1 rfl hs.dropL.s (by omega)).mono ?_
    rintro _ w5 ⟨sx, xs, rfl, h5, hx, _⟩
    obtain ⟨hxl, hxm⟩ := hx hats
    rw [if_pos hats]
    refine ⟨_, _, _, _, rfl, ?_⟩
    refine (all_at (h5.swap) (s := ⟨none, 0, 0⟩) (xs := []) (by simp) fun L w' hs => Ints.nil).mono ?_
    rintro _ w6 ⟨sy, ys, rfl, h6, hy, _⟩
    have hnil : ∀ x ∈ ([] : List Int), inT T x := by simp
    obtain ⟨hyl, hym⟩ := hy hnil
    rw [if_pos hnil]
    refine ⟨_, _, _, _, rfl, cond_n (fun h => absurd rfl h) fun _ => cond_n (fun h => absurd rfl h) fun _ => ?_⟩
    obtain ⟨ba, bc, hbc, _⟩ := pgF (L := [_, _, _, _, _]) h6.s
    have hsx : sx.len = xs.length := (h6.s.rowLen 2 rfl).1
    have hsy : sy.len = ys.length := (h6.s.rowLen 0 rfl).1
    have hspl : sp.len = pl.length := (h6.s.rowLen 3 rfl).1
    refine ⟨b, rfl, _, _, _, hbc, cond_n (fun h => absurd (by omega) h) fun _ => ⟨b, rfl, _, _, _, hbc, cond_n (fun h => absurd (by omega) h) fun _ => ?_⟩⟩
    unfold trystlaw11_KnowMade.c3 trystlaw11_KnowMade.l2
    refine ⟨fun t w' => ∃ i : Nat, t = i ∧ i ≤ T.length ∧ At W w' [boolA sy ys, arT a T, boolA sx xs, boolA sp pl, ownA sa (toI ats), pgA b N], fun t _ => T.length - t.toNat, ⟨0, rfl, Nat.zero_le _, h6⟩, ?_⟩
    rintro _ w7 ⟨i, rfl, hi, h7⟩
    unfold trystlaw11_KnowMade.b2
    refine cond_d (p := ((i : Nat) : Int) < ((sx.len : Nat) : Int)) (fun hlt => ?_) fun hge => ?_
    · have hi' : i < T.length := by omega
      obtain ⟨q1, hq1, hc1⟩ := h7.s.boolAt 2 rfl (j := i) (by omega)
      obtain ⟨q2, hq2, hc2⟩ := h7.s.boolAt 0 rfl (j := i) (by omega)
      obtain ⟨q3, hq3, hc3⟩ := h7.s.boolAt 3 rfl (j := i) (by omega)
      have ex : xs[i]?.getD false = true := (hxm i).2 (kn_atoms hkt (fun j hj hk => by
        show ((j : Nat) : Int) ∈ toI ats
        unfold toI
        exact List.mem_map.2 ⟨j, (hat j).2 ⟨hj, hk⟩, rfl⟩) i hi')
      have ey : ys[i]?.getD false = pl[i]?.getD false := by
        rw [Bool.eq_iff_iff, hym i, hpm i hi', ← kn_md]
        constructor
        · exact Kn.more fun j hj => by simp at hj
        · exact Kn.more fun j hj => hj.elim
      refine ⟨by omega, hlt, q1, hq1, _, by rw [Int.toNat_natCast]; exact hc1, cond_not (fun hf => by rw [ex] at hf; cases hf) fun _ => ⟨by omega, by show ((i : Nat) : Int) < ((sy.len : Nat) : Int); omega, q2, hq2, _, by rw [Int.toNat_natCast]; exact hc2, by omega, by omega, q3, hq3, _, by rw [Int.toNat_natCast]; exact hc3, cond_not (fun hf => by rw [ey] at hf; simp at hf) fun _ => ?_⟩⟩
      dsimp only
      rw [inc (by omega)]
      exact ⟨⟨rfl, rfl, rfl, i + 1, rfl, by omega, h7.drew⟩, by (try dsimp only); omega⟩
    · unfold trystlaw11_KnowMade.c1
      refine (wakes11 h7).mono ?_
      rintro _ w8 ⟨rfl, h8⟩
      refine ⟨_, rfl, ?_⟩
      rw [← hRR]
      exact ⟨rfl, h8.b⟩

end Go.Proofs.YtoclhecldmahiaaDoor
