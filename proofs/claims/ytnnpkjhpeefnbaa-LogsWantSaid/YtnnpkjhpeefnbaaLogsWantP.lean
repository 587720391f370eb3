/-
  LogsWant: the law's own walk.
-/
import Derived.Test.YtnnpkjhpeefnbaaLoA
set_option linter.unusedVariables false
set_option linter.unusedSimpArgs false
namespace Go.Proofs.Ytnnpkjhpeefnbaa
open Go.Lf Go.RowKit

def heavyG (gs : List Log) : Bool := decide (50 < gs.length) || gs.any fun g => decide (100 < g.b.length)

theorem heavy_spec {w : World} {s : Sl} {gs : List Log} (h : Logs w s gs) :
    CallsV Try.prog n_trystlaw25_Heavy #[.slice s.a s.len s.cap] w fun v w' => v = .bool (heavyG gs) ∧ w = w' := by
  have hl := h.len
  refine trystlaw25_Heavy.lift ?_
  unfold trystlaw25_Heavy.main
  refine cond_d (fun hx => ⟨by simp [heavyG]; omega, rfl⟩) fun hx => ?_
  unfold trystlaw25_Heavy.l1
  refine ⟨fun i w' => (∃ k : Nat, i = k ∧ k ≤ gs.length ∧ heavyG gs = (gs.drop k).any fun g => decide (100 < g.b.length)) ∧ w = w', fun i _ => gs.length - i.toNat, ⟨⟨0, rfl, Nat.zero_le _, ?_⟩, rfl⟩, ?_⟩
  · unfold heavyG; rw [decide_eq_false (by omega)]; rfl
  rintro _ _ ⟨⟨k, rfl, hk, he⟩, rfl⟩
  unfold trystlaw25_Heavy.b1
  refine cond_d (fun hlt => ?_) fun hge => ?_
  · obtain ⟨p, g, m, hp, hg, c0, c1, c2, hm⟩ := Logs.get h (i := (k : Int)) (by omega) hlt
    rw [Int.toNat_natCast] at hg
    rw [drop_eq hg, List.any_cons] at he
    have hml := hm.len
    refine ⟨by omega, hlt, p, hp, _, _, _, c2, cond_d (fun hy => ?_) fun hy => ?_⟩
    · exact ⟨by rw [he, decide_eq_true (by omega)]; rfl, rfl⟩
    · intro i2
      have hi2 : i2 = ((k + 1 : Nat) : Int) := inc (by omega)
      clear_value i2
      subst hi2
      refine ⟨⟨rfl, ⟨k + 1, rfl, ?_, by rw [he, decide_eq_false (by omega)]; rfl⟩, rfl⟩, by (try dsimp only); omega⟩
      have := (List.getElem?_eq_some_iff.1 hg).1; omega
  · exact ⟨by rw [he, List.drop_eq_nil_of_le (by omega)]; rfl, rfl⟩

theorem info_int : ∃ i, Try.prog.info? 3 = some i ∧ i.zero = some (.int .i64 0) ∧ i.size = 1 ∧ i.bytes = 8 := ⟨Try.t3, by kernel_rfl, by kernel_rfl, by kernel_rfl, by kernel_rfl⟩

theorem twinInts_spec {w : World} {s : Sl} {xs : List Int} (h : Ints .i64 w s xs) (hx : xs.length ≤ 1000000) :
    CallsV Try.prog n_trystkeep_TwinInts #[.slice s.a s.len s.cap] w fun v w' => ∃ s' : Sl, v = .slice s'.a s'.len s'.cap ∧ OwnI w.heap.size 3 .i64 w' s' xs ∧ Below w.heap.size w w' := by
  refine trystkeep_TwinInts.lift ?_
  obtain ⟨i, hi, hz, hsz, hby⟩ := info_int
  obtain ⟨s', w', hr, ho, hb⟩ := append_all (ty := 23) Try.underlying23 hi hz hsz hby rfl h (by unfold maxLen; omega) (by omega)
  exact ⟨_, _, _, _, hr, s', rfl, ho, hb⟩

theorem msg_spec (a b c x y z : Int) (w : World) : CallsV Try.prog n_trystkeep_Msg #[.agg #[.int .i64 a, .int .i64 b, .int .i64 c], .agg #[.int .i64 x, .int .i64 y, .int .i64 z]] w fun v w' => v = .bool (decide (a = x ∧ b = y ∧ c = z)) ∧ Below w.heap.size w w' := by
  refine trystkeep_Msg.lift ?_
  unfold trystkeep_Msg.main
  intro w1 w2
  have hb : Below w.heap.size w w2 := (below_alloc _ _).then (below_alloc _ _)
  have a0 : w2.cell? (newA w) = some (.int .i64 a) := cell_alloc_old (cell_new0 _ _ _)
  have a1 : w2.cell? ((newA w).add 1) = some (.int .i64 b) := cell_alloc_old (cell_new _ _ _ _)
  have a2 : w2.cell? ((newA w).add 2) = some (.int .i64 c) := cell_alloc_old (cell_new _ _ _ _)
  refine ⟨_, a0, _, cell_new0 _ _ _, cond_e (fun h1 => ?_) fun h1 => ⟨by simp [h1], hb⟩⟩
  refine ⟨_, a1, _, cell_new _ _ _ _, cond_e (fun h2 => ?_) fun h2 => ⟨by simp [h2], hb⟩⟩
  refine ⟨_, a2, _, cell_new _ _ _ _, ?_, hb⟩
  rw [h1, h2]; congr 1; rw [Bool.eq_iff_iff]; simp

theorem Ints.made {w : World} {e : TypeId} {xs : List Int} {cells : Array Value} (hc : cells = (xs.map (Value.int .i64)).toArray) (hs : xs.length ≤ 1000000) : Ints .i64 (w.alloc (.cells cells e)) ⟨some (newA w), xs.length, xs.length⟩ xs := by
  subst hc
  refine ⟨rfl, by simp only; omega, fun i x hx => ⟨newA w, rfl, by rw [size_alloc, newA_block]; omega, ?_⟩⟩
  rw [cell_new]
  simp [hx]

theorem wakes_spec (w : World) : CallsV Try.prog n_trystlaw25_wakes #[] w fun v w' => v = .bool true ∧ Below w.heap.size w w' := by
  refine trystlaw25_wakes.lift ?_
  unfold trystlaw25_wakes.main
  intro w1 w2 w3
  have b1 : Below w.heap.size w w1 := below_alloc _ _
  have b2 : Below w1.heap.size w1 w2 := below_alloc _ _
  have b3 : Below w2.heap.size w2 w3 := below_alloc _ _
  have i1 : Ints .i64 w1 ⟨some (newA w), 3, 3⟩ [5, 6, 7] := Ints.made (xs := [5, 6, 7]) rfl (by decide)
  have i3 : Ints .i64 w3 ⟨some (newA w2), 8, 8⟩ [0, 1, 0, 0, 0, 0, 0, 0] := Ints.made (xs := [0, 1, 0, 0, 0, 0, 0, 0]) rfl (by decide)
  have g2 : Logs w2 ⟨some (newA w1), 1, 1⟩ [⟨1, 0, [5, 6, 7]⟩] := by
    refine ⟨rfl, by show 1 ≤ 9223372036854775807; omega, fun i x hx => ?_⟩
    cases i with
    | succ i => simp at hx
    | zero =>
      simp at hx
      subst hx
      refine ⟨newA w1, [.int .i64 1, .int .i64 0, .slice (some (newA w)) 3 3], rfl, by rw [size_alloc, newA_block]; omega, fun j u hu => ?_, ⟨some (newA w), 3, 3⟩, rfl, i1.keep b2⟩
      rw [Nat.zero_mul, Nat.zero_add]
      refine (cell_new _ _ _ _).trans ?_
      simpa using hu
  refine (want_spec (Els.keep LogC.stab g2 b3) i3).mono ?_
  rintro _ w4 ⟨rfl, b4⟩
  have hv : msgOf [0, 1, 0, 0, 0, 0, 0, 0] (wantG [0, 1, 0, 0, 0, 0, 0, 0] [⟨1, 0, [5, 6, 7]⟩]) = (1, 2, 6, true) := by decide
  rw [hv]
  refine ⟨1, 2, 6, true, rfl, ?_⟩
  simp only [box_set3, cell_new, cell_new0, List.getElem?_toArray, List.getElem?_cons_succ, List.getElem?_cons_zero, Option.some.injEq, Value.int.injEq, true_and, exists_eq_left']
  refine ⟨fun j hj => wr_new _ _ _ hj, ?_⟩
  exact ⟨rfl, ((b1.then b2).then b3).then (b4.then (below_alloc _ _))⟩

/-! plain laws -/

def firstI {α : Type} (p : α → Bool) : List α → Option Nat
  | [] => none
  | x :: r => if p x = true then some 0 else (firstI p r).map (· + 1)

theorem firstI_cons {α : Type} {p : α → Bool} {x : α} {r : List α} : firstI p (x :: r) = if p x = true then some 0 else (firstI p r).map (· + 1) := rfl

theorem firstI_none {α : Type} {p : α → Bool} : ∀ {l : List α}, firstI p l = none → l.find? p = none
  | [], _ => rfl
  | x :: r, h => by
    unfold firstI at h
    split at h
    · cases h
    · rename_i hp
      rw [List.find?_cons]
      simp only [Bool.not_eq_true] at hp
      rw [hp]
      exact firstI_none (by simpa using h)

theorem firstI_some {α : Type} {p : α → Bool} : ∀ {l : List α} {j : Nat}, firstI p l = some j → ∃ x, l[j]? = some x ∧ p x = true ∧ l.find? p = some x ∧ ∀ i, i < j → ∀ y, l[i]? = some y → p y = false
  | [], _, h => by cases h
  | x :: r, j, h => by
    unfold firstI at h
    split at h
    · rename_i hp
      cases h
      exact ⟨x, rfl, hp, by rw [List.find?_cons, hp], fun i hi => by omega⟩
    · rename_i hp
      simp only [Bool.not_eq_true] at hp
      simp only [Option.map_eq_some_iff] at h
      obtain ⟨k, hk, rfl⟩ := h
      obtain ⟨y, h1, h2, h3, h4⟩ := firstI_some hk
      refine ⟨y, by simpa using h1, h2, by rw [List.find?_cons, hp]; exact h3, fun i hi z hz => ?_⟩
      cases i with
      | zero => simp at hz; subst hz; exact hp
      | succ i => exact h4 i (by omega) z (by simpa using hz)

def fstV {α : Type} (p : α → Bool) (gs : List α) (k : Nat) : Int := match firstI p (gs.drop k) with
  | none => -1
  | some j => (k : Int) + j

theorem logsOk_lt : ∀ {gs : List Log} {l : Int}, logsOk l gs = true → ∀ (i j : Nat) (x y : Log), i < j → gs[i]? = some x → gs[j]? = some y → x.c < y.c
  | [], _, _, i, j, x, y, _, hx, _ => by simp at hx
  | z :: r, l, h, i, j, x, y, hij, hx, hy => by
    have h' : (okLog l z && logsOk z.c r) = true := h
    simp only [Bool.and_eq_true] at h'
    cases j with
    | zero => omega
    | succ j =>
      have hy : r[j]? = some y := by simpa using hy
      cases i with
      | zero =>
        simp at hx
        subst hx
        exact (logsOk_mem h'.2 y (List.mem_of_getElem? hy)).1
      | succ i => exact logsOk_lt h'.2 i j x y (by omega) (by simpa using hx) hy

theorem find_at {α : Type} {p : α → Bool} {l : List α} {x : α} (h : l.find? p = some x) : ∃ j, firstI p l = some j := by
  cases hj : firstI p l with
  | none => rw [firstI_none hj] at h; cases h
  | some j => exact ⟨j, rfl⟩

theorem want_next {gs : List Log} {hs : List Int} (hok : logsOk (-1) gs = true) {g : Log} (hlen : hs.length = 8) (h : gs.find? (wants hs) = some g) :
    hv (hs.set g.c.toNat (hv hs g + 1)) g = hv hs g + 1 ∧ ∀ g', gs.find? (wants (hs.set g.c.toNat (hv hs g + 1))) = some g' → g' = g ∨ g.c < g'.c := by
  obtain ⟨j, hj⟩ := find_at h
  obtain ⟨x, h1, h2, h3, h4⟩ := firstI_some hj
  rw [h] at h3
  obtain rfl := Option.some.inj h3
  obtain ⟨_, g0, g8, _⟩ := logsOk_mem hok g (List.mem_of_getElem? h1)
  have hsame : hv (hs.set g.c.toNat (hv hs g + 1)) g = hv hs g + 1 := by
    unfold hv
    rw [List.getElem?_set_self (by omega)]; rfl
  refine ⟨hsame, fun g' hg' => ?_⟩
  obtain ⟨j', hj'⟩ := find_at hg'
  obtain ⟨x', h1', h2', h3', h4'⟩ := firstI_some hj'
  rw [hg'] at h3'
  obtain rfl := Option.some.inj h3'
  rcases Nat.lt_trichotomy j' j with hlt | heq | hgt
  · exfalso
    have hne := logsOk_lt hok _ _ _ _ hlt h1' h1
    obtain ⟨_, g0', _⟩ := logsOk_mem hok g' (List.mem_of_getElem? h1')
    have hw := h4 j' hlt g' h1'
    have : wants (hs.set g.c.toNat (hv hs g + 1)) g' = wants hs g' := by
      have : hv (hs.set g.c.toNat (hv hs g + 1)) g' = hv hs g' := by
        unfold hv
        rw [List.getElem?_set_ne (by omega)]
      unfold wants
      rw [this]
    rw [this, hw] at h2'
    cases h2'
  · subst heq; rw [h1] at h1'; left; exact (Option.some.inj h1').symm
  · right; exact logsOk_lt hok _ _ _ _ hgt h1 h1'

theorem tail_spec {B : Nat} {w0 w : World} (hb : Below w0.heap.size w0 w) : CallsV Try.prog n_trystlaw25_wakes #[] w fun v w' => ∃ b : Bool, v = .bool b ∧ (Value.bool b = .bool true ∧ Below w0.heap.size w0 w') := by
  refine (wakes_spec w).mono ?_
  rintro _ w' ⟨rfl, hb'⟩
  exact ⟨_, rfl, rfl, hb.then hb'⟩

theorem law_end {w0 w : World} {s t : Sl} {gs : List Log} {hs : List Int} (h : Logs w s gs) (ht : Ints .i64 w t hs) (hb : Below w0.heap.size w0 w) (hok : logsOk (-1) gs = true) (hlen : hs.length = 8) {g : Log} (hg : gs.find? (wants hs) = some g) {m5 : Addr}
    (hm : w.cell? m5 = some (.int .i64 g.c)) (hm1 : w.cell? (m5.add 1) = some (.int .i64 (hv hs g + 1))) (hr : 0 ≤ hv hs g ∧ hv hs g < 2000000000) :
    trystlaw25_LogsWant.c1 (fun v w' => v = .bool true ∧ Below w0.heap.size w0 w') s t m5 w := by
  unfold trystlaw25_LogsWant.c1
  have htl := ht.len
  obtain ⟨j, hj⟩ := find_at hg
  obtain ⟨x, h1, h2, h3, h4⟩ := firstI_some hj
  rw [hg] at h3
  obtain rfl := Option.some.inj h3
  obtain ⟨_, g0, g8, _⟩ := logsOk_mem hok g (List.mem_of_getElem? h1)
  refine (twinInts_spec ht (by omega)).mono ?_
  rintro _ w1 ⟨u, rfl, ho, hb1⟩
  have hul := ho.len
  have hu := ho.ints (by omega)
  obtain ⟨p, hp, hc⟩ := hu.get g0 (by omega : g.c < u.len)
  obtain ⟨hw, ho2, hB⟩ := ho.set hp (j := g.c.toNat) (by omega) (hv hs g + 1)
  have hmb := World.block_lt_of_cell? w m5 hm
  refine ⟨_, _, _, rfl, g.c, hb1.here hm, g0, by omega, p, hp, hv hs g, hc, g0, by omega, p, hp, hw, ?_⟩
  rw [w64 (n := hv hs g + 1) (by omega)]
  intro w2
  have hb2 : Below w.heap.size w w2 := hb1.setCell (by rw [add_block]; exact hB) _
  have hu2 : Ints .i64 w2 u (hs.set g.c.toNat (hv hs g + 1)) := OwnI.ints ho2 (by rw [List.length_set]; omega)
  clear_value w2
  refine (want_spec (Els.keep LogC.stab h hb2) hu2).mono ?_
  rintro _ w3 ⟨rfl, hb3⟩
  obtain ⟨hn1, hn2⟩ := want_next hok hlen hg
  have hG : wantG (hs.set g.c.toNat (hv hs g + 1)) gs = gs.find? (wants (hs.set g.c.toNat (hv hs g + 1))) := by unfold wantG; rw [if_pos ⟨hok, by rw [List.length_set]; exact hlen⟩]
  rw [hG]
  have hb4 : Below w0.heap.size w0 w3 := hb.then (hb2.then hb3)
  have hm' : w3.cell? m5 = some (.int .i64 g.c) := (hb2.then hb3).here hm
  have hm1' : w3.cell? (m5.add 1) = some (.int .i64 (hv hs g + 1)) := (hb2.then hb3).here hm1
  generalize hM : msgOf (hs.set g.c.toNat (hv hs g + 1)) (gs.find? (wants (hs.set g.c.toNat (hv hs g + 1)))) = M
  obtain ⟨n0, n1, n2, nb⟩ := M
  refine ⟨n0, n1, n2, nb, rfl, ?_⟩
  simp only [box_set3, cell_new, cell_new0, List.getElem?_toArray, List.getElem?_cons_succ, List.getElem?_cons_zero, Option.some.injEq, Value.int.injEq, true_and, exists_eq_left']
  refine ⟨fun j hj => wr_new _ _ _ hj, ?_⟩
  generalize hw5 : w3.alloc (.cells #[.int .i64 n0, .int .i64 n1, .int .i64 n2] 28) = w5
  have hb5 : Below w3.heap.size w3 w5 := by rw [← hw5]; exact below_alloc _ _
  have hm5 := hb5.here hm'
  have hm15 := hb5.here hm1'
  have hB5 := hb4.then hb5
  have hcase : nb = true → g.c ≤ n0 ∧ (n0 = g.c → n1 = hv hs g + 1 + 1) := by
    intro hnb
    subst hnb
    cases hf : gs.find? (wants (hs.set g.c.toNat (hv hs g + 1))) with
    | none => rw [hf] at hM; simp [msgOf] at hM
    | some g' =>
      rw [hf] at hM
      simp only [msgOf, Prod.mk.injEq, and_true] at hM
      obtain ⟨rfl, rfl, rfl⟩ := hM
      rcases hn2 g' hf with rfl | hlt
      · exact ⟨Int.le_refl _, fun _ => by rw [hn1]⟩
      · exact ⟨by omega, fun he => by omega⟩
  refine cond_not (fun hnb => ?_) fun hnb => ?_
  · subst hnb
    refine ⟨_, hm5, cond_n (fun _ => tail_spec (B := 0) hB5) fun _ => tail_spec (B := 0) hB5⟩
  · obtain ⟨h5, h6⟩ := hcase hnb
    subst hnb
    refine ⟨_, hm5, cond_d (fun _ => ⟨_, hm5, cond_n (fun _ => tail_spec (B := 0) hB5) fun he => ⟨_, hm15, cond_e (fun _ => tail_spec (B := 0) hB5) fun hne => ?_⟩⟩) fun hlt => absurd h5 (by omega)⟩
    exfalso
    refine hne ?_
    rw [w64 (by omega)]
    exact h6 he

theorem logsWant_spec {w : World} {s t : Sl} {gs : List Log} {hs : List Int} (h : Logs w s gs) (ht : Ints .i64 w t hs) :
    CallsV Try.prog n_trystlaw25_LogsWant #[.slice s.a s.len s.cap, .slice t.a t.len t.cap] w fun v w' => v = .bool true ∧ Below w.heap.size w w' := by
  have hl := h.len
  have hsm := h.small
  have htl := ht.len
  refine trystlaw25_LogsWant.lift ?_
  unfold trystlaw25_LogsWant.main
  refine (heavy_spec h).mono ?_
  rintro _ _ ⟨rfl, rfl⟩
  refine ⟨_, rfl, cond_c (fun _ => ⟨rfl, Below.refl _ _⟩) fun hx => cond_n (fun _ => ⟨rfl, Below.refl _ _⟩) fun h8 => ?_⟩
  refine (check_spec h).mono ?_
  rintro _ w1 ⟨rfl, hb1⟩
  refine ⟨_, rfl, cond_n (fun _ => ⟨rfl, hb1⟩) fun he => ?_⟩
  have hok : logsOk (-1) gs = true := by
    cases hh : logsOk (-1) gs with
    | true => rfl
    | false => rw [hh] at he; simp at he
  have hlen : hs.length = 8 := by omega
  have hg50 : gs.length ≤ 50 := by simp [heavyG] at hx; omega
  have h1 := Els.keep LogC.stab h hb1
  have ht1 := ht.keep hb1
  have hG : wantG hs gs = gs.find? (wants hs) := by unfold wantG; rw [if_pos ⟨hok, hlen⟩]
  unfold trystlaw25_LogsWant.c4
  refine (want_spec h1 ht1).mono ?_
  rintro _ w2 ⟨rfl, hb2⟩
  rw [hG]
  generalize hM : msgOf hs (gs.find? (wants hs)) = M
  obtain ⟨n0, n1, n2, nb⟩ := M
  refine ⟨n0, n1, n2, nb, rfl, ?_⟩
  simp only [box_set3]
  refine ⟨fun j hj => wr_new _ _ _ hj, ?_⟩
  generalize hw3 : w2.alloc (.cells #[.int .i64 n0, .int .i64 n1, .int .i64 n2] 28) = w3
  have hb3 : Below w2.heap.size w2 w3 := by rw [← hw3]; exact below_alloc _ _
  have m0 : w3.cell? (newA w2) = some (.int .i64 n0) := by rw [← hw3]; exact cell_new0 _ _ _
  have m1 : w3.cell? ((newA w2).add 1) = some (.int .i64 n1) := by rw [← hw3]; exact cell_new _ _ _ _
  have m2 : w3.cell? ((newA w2).add 2) = some (.int .i64 n2) := by rw [← hw3]; exact cell_new _ _ _ _
  have hB : Below w.heap.size w w3 := (hb1.then hb2).then hb3
  have h3 := Els.keep LogC.stab h hB
  have ht3 := ht.keep hB
  clear hw3
  have e1 : IntKind.i64.wrap (((s.len : Nat) : Int) - 1) = (gs.length : Int) - 1 := by rw [w64 (by omega)]; omega
  rw [e1]
  unfold trystlaw25_LogsWant.l3
  refine ⟨fun st w' => ∃ k : Nat, st = (fstV (wants hs) gs k, (k : Int) - 1) ∧ k ≤ gs.length ∧ Same w3 w', fun st _ => (st.2 + 1).toNat, ⟨gs.length, ?_, Nat.le_refl _, Same.refl _⟩, ?_⟩
  · unfold fstV; rw [List.drop_length]; rfl
  rintro _ w4 ⟨k, rfl, hk, hs4⟩
  have h4 : Logs w4 s gs := Els.keep LogC.stab h3 (hs4.below _)
  have ht4 := ht3.same hs4
  have m0 := (hs4.cell _).trans m0
  have m1 := (hs4.cell _).trans m1
  have m2 := (hs4.cell _).trans m2
  have hB4 : Below w.heap.size w w4 := hB.trans (hs4.below _)
  dsimp only
  unfold trystlaw25_LogsWant.b3
  refine cond_d (fun hge => ?_) fun hlt => ?_
  · obtain ⟨k, rfl⟩ : ∃ k', k = k' + 1 := ⟨k - 1, by omega⟩
    have ek : ((k + 1 : Nat) : Int) - 1 = k := by omega
    rw [ek]
    obtain ⟨p, g, m, hp, hg, c0, c1, c2, hm⟩ := Logs.get h4 (i := (k : Int)) (by omega) (by omega)
    rw [Int.toNat_natCast] at hg
    obtain ⟨_, g0, g8, gf0, gf1, gl, gb⟩ := logsOk_mem hok g (List.mem_of_getElem? hg)
    obtain ⟨q, hq, hc⟩ := ht4.get g0 (by omega : g.c < t.len)
    have hml := hm.len
    have hstep : wants hs g = false → fstV (wants hs) gs k = fstV (wants hs) gs (k + 1) := by
      intro hn
      unfold fstV
      rw [drop_eq hg, firstI_cons, hn, if_neg (by decide)]
      cases firstI (wants hs) (gs.drop (k + 1)) with
      | none => rfl
      | some j => simp only [Option.map_some]; omega
    have hstep1 : wants hs g = true → fstV (wants hs) gs k = k := by
      intro hn
      unfold fstV
      rw [drop_eq hg, firstI_cons, hn, if_pos rfl]
      simp
    have hnext : ∀ f : Int, f = fstV (wants hs) gs k → (∃ k' : Nat, (f, IntKind.i64.wrap ((k : Int) - 1)) = (fstV (wants hs) gs k', (k' : Int) - 1) ∧ k' ≤ gs.length ∧ Same w3 w4.drew) ∧ (IntKind.i64.wrap ((k : Int) - 1) + 1).toNat < ((k : Int) + 1).toNat := by
      intro f hf
      rw [w64 (by omega)]
      exact ⟨⟨k, by rw [hf], by omega, hs4.drew'⟩, by omega⟩
    refine ⟨by omega, by omega, p, hp, _, c0, g0, by omega, q, hq, hv hs g, hc, by omega, by omega, p, hp, _, c1, cond_d (fun n1 => ?_) fun n1 => ?_⟩
    · refine ⟨by omega, by omega, p, hp, _, c1, by omega, by omega, p, hp, _, _, _, c2, ?_⟩
      rw [w64 (by omega)]
      refine cond_d (fun n2 => ?_) fun n2 => ?_
      · obtain ⟨a1, a2⟩ := hnext k (hstep1 (by simp [wants]; omega)).symm
        exact ⟨⟨rfl, rfl, rfl, rfl, a1⟩, a2⟩
      · obtain ⟨a1, a2⟩ := hnext _ (hstep (by simp [wants]; omega)).symm
        exact ⟨⟨rfl, rfl, rfl, rfl, a1⟩, a2⟩
    · obtain ⟨a1, a2⟩ := hnext _ (hstep (by simp [wants]; omega)).symm
      exact ⟨⟨rfl, rfl, rfl, rfl, a1⟩, a2⟩
  · obtain rfl : k = 0 := by omega
    unfold trystlaw25_LogsWant.c2
    have ef : fstV (wants hs) gs 0 = match firstI (wants hs) gs with
      | none => -1
      | some j => (j : Int) := by
      unfold fstV; rw [List.drop_zero]
      cases firstI (wants hs) gs with
      | none => rfl
      | some j => simp
    cases hfi : firstI (wants hs) gs with
    | none =>
      rw [hfi] at ef
      rw [firstI_none hfi] at hM
      simp only [msgOf, Prod.mk.injEq] at hM
      obtain ⟨rfl, rfl, rfl, rfl⟩ := hM
      rw [ef]
      refine ⟨_, m0, _, m1, _, m2, (msg_spec 0 0 0 0 0 0 w4).mono ?_⟩
      rintro _ w5 ⟨rfl, hb5⟩
      refine ⟨_, rfl, ?_⟩
      exact tail_spec (B := 0) (hB4.then hb5)
    | some j =>
      rw [hfi] at ef
      replace ef : fstV (wants hs) gs 0 = (j : Int) := ef
      obtain ⟨g, h5, h6, h7, _⟩ := firstI_some hfi
      rw [h7] at hM
      simp only [msgOf, Prod.mk.injEq] at hM
      obtain ⟨rfl, rfl, rfl, rfl⟩ := hM
      rw [ef]
      obtain ⟨_, g0, g8, gf0, gf1, gl, gb⟩ := logsOk_mem hok g (List.mem_of_getElem? h5)
      have hj := (List.getElem?_eq_some_iff.1 h5).1
      obtain ⟨p, g', m, hp, hg, c0, c1, c2, hm⟩ := Logs.get h4 (i := (j : Int)) (by omega) (by omega)
      rw [Int.toNat_natCast, h5] at hg
      obtain rfl := Option.some.inj hg
      obtain ⟨q, hq, hc⟩ := ht4.get g0 (by omega : g.c < t.len)
      have hml := hm.len
      simp only [wants, Bool.and_eq_true, decide_eq_true_eq] at h6
      obtain ⟨qb, hqb, hcb⟩ := hm.get (i := hv hs g - g.f) (by omega) (by omega)
      show cond (decide ((j : Int) < 0)) _ _
      refine cond_d (fun hh => by omega) fun _ => ?_
      refine ⟨_, m0, by omega, by omega, p, hp, _, c0, cond_n (fun hh => absurd rfl hh) fun _ => ?_⟩
      refine ⟨_, m1, _, m0, by omega, by omega, q, hq, hv hs g, hc, ?_⟩
      rw [w64 (n := hv hs g + 1) (by omega)]
      refine cond_n (fun hh => absurd rfl hh) fun _ => ?_
      refine ⟨_, m2, by omega, by omega, p, hp, _, _, _, c2, _, m0, by omega, by omega, q, hq, hv hs g, hc, by omega, by omega, p, hp, _, c1, ?_⟩
      rw [w64 (n := hv hs g - g.f) (by omega)]
      refine ⟨by omega, by omega, qb, hqb, _, hcb, cond_n (fun hh => absurd rfl hh) fun _ => ?_⟩
      have hd := Same.drew w4
      exact law_end (Els.keep LogC.stab h4 (hd.below _)) (ht4.same hd) hB4.drew hok hlen h7 m0 m1 (by omega)

end Go.Proofs.Ytnnpkjhpeefnbaa
