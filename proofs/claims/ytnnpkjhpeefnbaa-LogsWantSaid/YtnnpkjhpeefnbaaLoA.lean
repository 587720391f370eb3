/-
  Logs: how they lie in memory; whether they are right; what is wanted: contracts.
-/
import Derived.Test.YtnnpkjhpeefnbaaLiftMem
import Derived.Test.YtnnpkjhpeefnbaaLwFns
set_option linter.unusedVariables false
set_option linter.unusedSimpArgs false
namespace Go.Proofs.Ytnnpkjhpeefnbaa
open Go.Lf Go.RowKit

structure Log where
  c : Int
  f : Int
  b : List Int

def LogC (w : World) (cs : List Value) (g : Log) : Prop := ∃ m : Sl, cs = [.int .i64 g.c, .int .i64 g.f, .slice m.a m.len m.cap] ∧ Ints .i64 w m g.b
theorem LogC.stab : Stab LogC := fun _ _ _ _ hb ⟨m, hs, h⟩ => ⟨m, hs, h.keep hb⟩
theorem LogC.len {w : World} {cs : List Value} {g : Log} (h : LogC w cs g) : cs.length = 3 := by obtain ⟨m, rfl, _⟩ := h; rfl

abbrev Logs (w : World) (s : Sl) (gs : List Log) : Prop := Els 3 LogC w s gs

theorem Logs.get {w : World} {s : Sl} {gs : List Log} (h : Logs w s gs) {i : Int} (h0 : 0 ≤ i) (h1 : i < s.len) :
    ∃ p g m, s.a = some p ∧ gs[i.toNat]? = some g ∧ w.cell? (p.add (i.toNat * 3)) = some (.int .i64 g.c) ∧ w.cell? ((p.add (i.toNat * 3)).add 1) = some (.int .i64 g.f) ∧
      w.cell? ((p.add (i.toNat * 3)).add 2) = some (.slice m.a m.len m.cap) ∧ Ints .i64 w m g.b := by
  obtain ⟨p, g, cs, hp, _, hg, hc, m, rfl, hm⟩ := Els.get h h0 h1
  exact ⟨p, g, m, hp, hg, by have := hc 0 _ rfl; rwa [add_zero] at this, hc 1 _ rfl, hc 2 _ rfl, hm⟩

def okBody (b : Int) : Bool := decide (0 ≤ b) && decide (b ≤ 1048576)
def okClient (c : Int) : Bool := decide (0 ≤ c) && decide (c < 8)
def okLog (last : Int) (g : Log) : Bool := decide (last < g.c) && okClient g.c && decide (0 ≤ g.f) && decide (g.f ≤ 1073741824) && decide (g.b.length ≤ 32) && g.b.all okBody
def logsOk : Int → List Log → Bool
  | _, [] => true
  | l, g :: r => okLog l g && logsOk g.c r

theorem body_spec (b : Int) (w : World) : CallsV Try.prog n_logs_body #[.int .i64 b] w fun v w' => v = .bool (okBody b) ∧ w = w' := by
  refine logs_body.lift ?_
  unfold logs_body.main
  refine cond_d (fun h => ?_) fun h => ⟨by simp [okBody]; omega, rfl⟩
  exact ⟨by simp [okBody]; omega, rfl⟩

theorem client_spec (b : Int) (w : World) : CallsV Try.prog n_logs_client #[.int .i64 b] w fun v w' => v = .bool (okClient b) ∧ w = w' := by
  refine logs_client.lift ?_
  unfold logs_client.main
  refine cond_d (fun h => ?_) fun h => ⟨by simp [okClient]; omega, rfl⟩
  exact ⟨by simp [okClient]; omega, rfl⟩

theorem check1_spec (b : Int) (w : World) : CallsV Try.prog n_logs_Check_1 #[.int .i64 b] w fun v w' => v = .bool (!okBody b) ∧ w = w' := by
  refine logs_Check_1.lift ?_
  unfold logs_Check_1.main
  refine (body_spec b w).mono ?_
  rintro _ _ ⟨rfl, rfl⟩
  exact ⟨_, rfl, rfl, rfl⟩

theorem inc {k : Nat} (h : k < 9223372036854775807) : IntKind.i64.wrap ((k : Int) + 1) = ((k + 1 : Nat) : Int) := by rw [w64 (by omega)]; omega

theorem drop_eq {α : Type} {xs : List α} {k : Nat} {x : α} (h : xs[k]? = some x) : xs.drop k = x :: xs.drop (k + 1) := by
  obtain ⟨hk, rfl⟩ := List.getElem?_eq_some_iff.1 h
  exact List.drop_eq_getElem_cons hk

theorem bodies_spec {w : World} {s : Sl} {xs : List Int} (h : Ints .i64 w s xs) :
    CallsV Try.prog n_slices_ContainsFunc_int #[.slice s.a s.len s.cap, .func (.func n_logs_Check_1) #[] #[]] w fun v w' => v = .bool (!(xs.all okBody)) ∧ w = w' := by
  have hl := h.len
  have hsm := h.small
  refine slices_ContainsFunc_int__logs_Check_1.lift ?_
  unfold slices_ContainsFunc_int__logs_Check_1.main
  have : CallsV Try.prog n_slices_IndexFunc_int #[.slice s.a s.len s.cap, .func (.func n_logs_Check_1) #[] #[]] w fun v w' => (∃ r : Int, v = .int .i64 r ∧ decide (r ≥ 0) = !(xs.all okBody)) ∧ w = w' := by
    refine slices_IndexFunc_int__logs_Check_1.lift ?_
    unfold slices_IndexFunc_int__logs_Check_1.main slices_IndexFunc_int__logs_Check_1.l1
    refine ⟨fun t w' => (∃ k : Nat, t = k ∧ k ≤ xs.length ∧ xs.all okBody = (xs.drop k).all okBody) ∧ w = w', fun t _ => xs.length - t.toNat, ⟨⟨0, rfl, Nat.zero_le _, rfl⟩, rfl⟩, ?_⟩
    rintro _ w' ⟨⟨k, rfl, hk, he⟩, rfl⟩
    unfold slices_IndexFunc_int__logs_Check_1.b1
    refine cond_d (fun hlt => ?_) fun hge => ?_
    · obtain ⟨p, hp, hc⟩ := h.get (i := (k : Int)) (by omega) hlt
      refine ⟨by omega, hlt, p, hp, _, hc, ?_⟩
      refine (check1_spec _ w).mono ?_
      rintro _ _ ⟨rfl, rfl⟩
      refine ⟨_, rfl, ?_⟩
      have hx : xs[k]? = some (xs[k]?.getD 0) := by rw [List.getElem?_eq_getElem (by omega)]; rfl
      rw [drop_eq hx, List.all_cons] at he
      rw [Int.toNat_natCast]
      refine cond_not (fun hb => ?_) fun hb => ?_
      · refine ⟨⟨_, rfl, ?_⟩, rfl⟩
        rw [he, hb]; simp
      · rw [hb] at he
        rw [inc (by omega)]
        exact ⟨⟨rfl, rfl, rfl, ⟨k + 1, rfl, by omega, by simpa using he⟩, rfl⟩, by (try dsimp only); omega⟩
    · refine ⟨⟨_, rfl, ?_⟩, rfl⟩
      rw [he, List.drop_eq_nil_of_le (by omega)]; simp
  refine this.mono ?_
  rintro _ _ ⟨⟨r, rfl, hr⟩, rfl⟩
  exact ⟨_, rfl, by rw [← hr], rfl⟩

theorem check_spec {w : World} {s : Sl} {gs : List Log} (h : Logs w s gs) :
    CallsV Try.prog n_logs_Check #[.slice s.a s.len s.cap] w fun v w' => v = .int .i64 (if logsOk (-1) gs then 0 else 1) ∧ Below w.heap.size w w' := by
  have hl := h.len
  have hsm := h.small
  refine logs_Check.lift ?_
  unfold logs_Check.main logs_Check.l1
  refine ⟨fun t w' => ∃ k : Nat, t.2 = k ∧ k ≤ gs.length ∧ logsOk (-1) gs = logsOk t.1 (gs.drop k) ∧ Below w.heap.size w w', fun t _ => gs.length - t.2.toNat, ⟨0, rfl, Nat.zero_le _, rfl, Below.refl _ _⟩, ?_⟩
  rintro ⟨last, _⟩ w1 ⟨k, rfl, hk, he, hb⟩
  dsimp only at he ⊢
  have h1 := Els.keep LogC.stab h hb
  unfold logs_Check.b1
  refine cond_d (fun hlt => ?_) fun hge => ?_
  · obtain ⟨p, g, m, hp, hg, c0, c1, c2, hm⟩ := Logs.get h1 (i := (k : Int)) (by omega) hlt
    refine ⟨by omega, hlt, p, hp, g.c, c0, g.f, c1, m.a, m.len, m.cap, c2, ?_⟩
    rw [Int.toNat_natCast] at hg
    rw [drop_eq hg] at he
    have hb2 : Below w.heap.size w (w1.alloc (.cells #[.int .i64 g.c, .int .i64 g.f, .slice m.a m.len m.cap] 32)) := hb.next (below_alloc _ _) (Nat.le_refl _)
    have hm2 := hm.keep (below_alloc w1 (.cells #[.int .i64 g.c, .int .i64 g.f, .slice m.a m.len m.cap] 32))
    simp only [box_set3, cell_new, cell_new0, List.getElem?_toArray, List.getElem?_cons_succ, List.getElem?_cons_zero, Option.some.injEq, Value.int.injEq, true_and, exists_eq_left']
    refine ⟨fun j hj => wr_new _ _ _ hj, ?_⟩
    have bad : okLog last g = false → logsOk (-1) gs = false := by intro hh; rw [he]; unfold logsOk; rw [hh]; rfl
    refine cond_d (fun hx => ⟨by rw [bad (by simp [okLog]; omega)]; rfl, hb2⟩) fun n1 => ?_
    refine (client_spec _ _).mono ?_
    rintro _ _ ⟨rfl, rfl⟩
    refine ⟨_, rfl, cond_not (fun hx => ⟨by rw [bad (by simp [okLog, hx])]; rfl, hb2⟩) fun n2 => ?_⟩
    simp only [box_set3, cell_new, cell_new0, List.getElem?_toArray, List.getElem?_cons_succ, List.getElem?_cons_zero, Option.some.injEq, Value.int.injEq, Value.slice.injEq, true_and, exists_eq_left']
    refine cond_d (fun hx => ⟨by rw [bad (by simp [okLog]; omega)]; rfl, hb2⟩) fun n3 => ?_
    refine cond_d (fun hx => ⟨by rw [bad (by simp [okLog]; omega)]; rfl, hb2⟩) fun n4 => ?_
    have hml := hm.len
    refine ⟨m.a, m.len, m.cap, ⟨rfl, rfl, rfl⟩, cond_d (fun hx => ⟨by rw [bad (by simp [okLog]; omega)]; rfl, hb2⟩) fun n5 => ?_⟩
    refine ⟨m.a, m.len, m.cap, ⟨rfl, rfl, rfl⟩, (bodies_spec hm2).mono ?_⟩
    rintro _ _ ⟨rfl, rfl⟩
    refine ⟨_, rfl, cond_not (fun hx => ⟨by rw [bad (by simp only [okLog, hx, Bool.and_false])]; rfl, hb2⟩) fun n6 => ?_⟩
    unfold logs_Check.c2
    refine ⟨_, cell_new0 _ _ _, ?_⟩
    rw [inc (by omega)]
    refine ⟨⟨rfl, rfl, k + 1, rfl, ?_, ?_, hb2⟩, by (try dsimp only); omega⟩
    · have := (List.getElem?_eq_some_iff.1 hg).1; omega
    · rw [he]
      show (okLog last g && logsOk g.c _) = _
      have : okLog last g = true := by simp [okLog, n2]; refine ⟨⟨⟨⟨by omega, by omega⟩, by omega⟩, by omega⟩, by simpa using n6⟩
      rw [this]; rfl
  · refine ⟨?_, hb⟩
    rw [he, List.drop_eq_nil_of_le (by omega)]; rfl

theorem logsOk_mem : ∀ {gs : List Log} {l : Int}, logsOk l gs = true → ∀ g ∈ gs, l < g.c ∧ 0 ≤ g.c ∧ g.c < 8 ∧ 0 ≤ g.f ∧ g.f ≤ 1073741824 ∧ g.b.length ≤ 32 ∧ ∀ b ∈ g.b, 0 ≤ b ∧ b ≤ 1048576
  | [], _, _, g, hg => by simp at hg
  | x :: r, l, h, g, hg => by
    unfold logsOk at h
    simp only [okLog, okClient, Bool.and_eq_true, decide_eq_true_eq, List.all_eq_true] at h
    obtain ⟨⟨⟨⟨⟨⟨h1, h2, h3⟩, h4⟩, h5⟩, h6⟩, h7⟩, h8⟩ := h
    rcases List.mem_cons.1 hg with rfl | hg
    · exact ⟨h1, h2, h3, h4, h5, h6, fun b hb => by have := h7 b hb; simpa [okBody] using this⟩
    · have := logsOk_mem h8 g hg
      exact ⟨by omega, this.2⟩

def hv (hs : List Int) (g : Log) : Int := hs[g.c.toNat]?.getD 0
def wants (hs : List Int) (g : Log) : Bool := decide (0 ≤ hv hs g) && decide (hv hs g < g.f + g.b.length) && decide (g.f ≤ hv hs g)
def wantG (hs : List Int) (gs : List Log) : Option Log := if logsOk (-1) gs = true ∧ hs.length = 8 then gs.find? (wants hs) else none
def msgOf (hs : List Int) : Option Log → Int × Int × Int × Bool
  | none => (0, 0, 0, false)
  | some g => (g.c, hv hs g + 1, g.b[(hv hs g - g.f).toNat]?.getD 0, true)
def msgV (m : Int × Int × Int × Bool) : Value := .tuple #[.agg #[.int .i64 m.1, .int .i64 m.2.1, .int .i64 m.2.2.1], .bool m.2.2.2]

theorem has_spec (c f : Int) (m : Sl) (w : World) (h1 : 0 ≤ f ∧ f ≤ 1073741824) (h2 : m.len ≤ 1000000) :
    CallsV Try.prog n_logs_has #[.agg #[.int .i64 c, .int .i64 f, .slice m.a m.len m.cap]] w fun v w' => v = .int .i64 (f + m.len) ∧ Below w.heap.size w w' := by
  refine logs_has.lift ?_
  unfold logs_has.main
  intro w1
  refine ⟨f, ?_, m.a, m.len, m.cap, ?_, ?_, below_alloc _ _⟩
  · exact cell_new _ _ _ _
  · exact cell_new _ _ _ _
  · rw [w64 (by omega)]

/-- no message is told -/
theorem want_none {R : Value → World → Prop} {w : World} (q : Addr) (hw : ∀ j, j < 3 → Wr w (q.add j)) (hR : ∀ w', (∀ B, B ≤ q.block → Below B w w') → R (msgV (0, 0, 0, false)) w') :
    (∀ j, j < 3 → Wr w (q.add j)) ∧
    (let w6 := setCells q [.int .i64 0, .int .i64 0, .int .i64 0] 0 w;
    ∃ x_32 : Int, w6.cell? q = some (.int .i64 x_32) ∧
    ∃ x_33 : Int, w6.cell? (q.add 1) = some (.int .i64 x_33) ∧
    ∃ x_34 : Int, w6.cell? (q.add 2) = some (.int .i64 x_34) ∧
    R (.tuple #[.agg #[.int .i64 x_32, .int .i64 x_33, .int .i64 x_34], .bool false]) w6) := by
  refine ⟨hw, ?_⟩
  intro w6
  obtain ⟨c0, c1, c2⟩ := cells3 q hw (.int .i64 0) (.int .i64 0) (.int .i64 0)
  exact ⟨0, c0, 0, c1, 0, c2, hR _ fun B hB => below_setCells hB _ _ (Below.refl _ _)⟩

theorem find_drop {hs : List Int} {gs : List Log} {k : Nat} {g : Log} (hg : gs[k]? = some g) (h : gs.find? (wants hs) = (gs.drop k).find? (wants hs)) :
    gs.find? (wants hs) = if wants hs g = true then some g else (gs.drop (k + 1)).find? (wants hs) := by
  rw [h, drop_eq hg, List.find?_cons]
  cases wants hs g <;> rfl

theorem want_spec {w : World} {s t : Sl} {gs : List Log} {hs : List Int} (h : Logs w s gs) (ht : Ints .i64 w t hs) :
    CallsV Try.prog n_logs_Want #[.slice s.a s.len s.cap, .slice t.a t.len t.cap] w fun v w' => v = msgV (msgOf hs (wantG hs gs)) ∧ Below w.heap.size w w' := by
  have hl := h.len
  have hsm := h.small
  have htl := ht.len
  refine logs_Want.lift ?_
  unfold logs_Want.main
  intro w1
  have hb1 : Below w.heap.size w w1 := below_alloc _ _
  have hq1 : ∀ j, j < 3 → Wr w1 ((newA w).add j) := fun j hj => wr_new _ _ _ hj
  have hsz1 : w.heap.size + 1 ≤ w1.heap.size := by show _ ≤ (w.alloc _).heap.size; rw [size_alloc]; omega
  clear_value w1
  refine (check_spec (Els.keep LogC.stab h hb1)).mono ?_
  rintro _ w2 ⟨rfl, hb2⟩
  have hb : Below w.heap.size w w2 := hb1.then hb2
  have hq : ∀ j, j < 3 → Wr w2 ((newA w).add j) := fun j hj => (hq1 j hj).below hb2 (by rw [add_block, newA_block]; omega)
  have hsz : w.heap.size + 1 ≤ w2.heap.size := Nat.le_trans hsz1 hb2.size
  refine ⟨_, rfl, cond_n (fun hne => ?_) fun he => cond_n (fun hne => ?_) fun he2 => ?_⟩
  · have : wantG hs gs = none := by
      unfold wantG; rw [if_neg]; rintro ⟨h1, _⟩; rw [h1] at hne; exact hne rfl
    rw [this]
    unfold logs_Want.c5
    exact want_none (R := fun v w' => v = msgV (msgOf hs none) ∧ Below w.heap.size w w') _ hq fun w' hw' => ⟨rfl, hb.trans (hw' _ (Nat.le_refl _))⟩
  · have : wantG hs gs = none := by
      unfold wantG; rw [if_neg]; rintro ⟨_, h1⟩; omega
    rw [this]
    unfold logs_Want.c5
    exact want_none (R := fun v w' => v = msgV (msgOf hs none) ∧ Below w.heap.size w w') _ hq fun w' hw' => ⟨rfl, hb.trans (hw' _ (Nat.le_refl _))⟩
  have hok : logsOk (-1) gs = true := by
    cases hh : logsOk (-1) gs with
    | true => rfl
    | false => rw [hh] at he; simp at he
  have hlen : hs.length = 8 := by omega
  have hG : wantG hs gs = gs.find? (wants hs) := by unfold wantG; rw [if_pos ⟨hok, hlen⟩]
  rw [hG]
  unfold logs_Want.c4 logs_Want.l2
  refine ⟨fun i w' => ∃ k : Nat, i = k ∧ k ≤ gs.length ∧ gs.find? (wants hs) = (gs.drop k).find? (wants hs) ∧ Below w.heap.size w w' ∧ Below w2.heap.size w2 w', fun i _ => gs.length - i.toNat, ⟨0, rfl, Nat.zero_le _, rfl, hb, Below.refl _ _⟩, ?_⟩
  rintro _ w3 ⟨k, rfl, hk, hf, hb3, hb4⟩
  have h3 := Els.keep LogC.stab h hb3
  have ht3 := ht.keep hb3
  unfold logs_Want.b2
  refine cond_d (fun hlt => ?_) fun hge => ?_
  · obtain ⟨p, g, m, hp, hg, c0, c1, c2, hm0⟩ := Logs.get h (i := (k : Int)) (by omega) hlt
    have hm := hm0.keep hb3
    replace c0 := hb3.here c0
    replace c1 := hb3.here c1
    replace c2 := hb3.here c2
    rw [Int.toNat_natCast] at hg
    obtain ⟨_, g0, g8, gf0, gf1, gl, gb⟩ := logsOk_mem hok g (List.mem_of_getElem? hg)
    refine ⟨by omega, hlt, p, hp, g.c, c0, g.f, c1, m.a, m.len, m.cap, c2, ?_⟩
    simp only [box_set3, cell_new, cell_new0, List.getElem?_toArray, List.getElem?_cons_succ, List.getElem?_cons_zero, Option.some.injEq, Value.int.injEq, true_and, exists_eq_left']
    refine ⟨fun j hj => wr_new _ _ _ hj, ?_⟩
    generalize hw4 : w3.alloc (.cells #[.int .i64 g.c, .int .i64 g.f, .slice m.a m.len m.cap] 32) = w4
    have hb5 : Below w3.heap.size w3 w4 := by rw [← hw4]; exact below_alloc _ _
    have ht4 := ht3.keep hb5
    obtain ⟨q, hq4, hc4⟩ := ht4.get g0 (by omega : g.c < t.len)
    refine ⟨g0, by omega, q, hq4, hv hs g, hc4, ?_⟩
    have e0 : w4.cell? (newA w3) = some (.int .i64 g.c) := by rw [← hw4]; exact cell_new0 _ _ _
    have e1 : w4.cell? ((newA w3).add 1) = some (.int .i64 g.f) := by rw [← hw4]; exact cell_new _ _ _ _
    have e2 : w4.cell? ((newA w3).add 2) = some (.slice m.a m.len m.cap) := by rw [← hw4]; exact cell_new _ _ _ _
    have hsz4 : w3.heap.size < w4.heap.size := by rw [← hw4, size_alloc]; omega
    have hstep : ∀ w5, Below w3.heap.size w3 w5 → wants hs g = false → ∃ k' : Nat, IntKind.i64.wrap ((k : Int) + 1) = k' ∧ (k' ≤ gs.length ∧ gs.find? (wants hs) = (gs.drop k').find? (wants hs) ∧ Below w.heap.size w w5 ∧ Below w2.heap.size w2 w5) ∧ gs.length - (IntKind.i64.wrap ((k : Int) + 1)).toNat < gs.length - (k : Int).toNat := by
      intro w5 hb5 hn
      have := (List.getElem?_eq_some_iff.1 hg).1
      rw [inc (by omega)]
      refine ⟨k + 1, rfl, ⟨by omega, ?_, hb3.next hb5 (Nat.le_refl _), hb4.next hb5 (Nat.le_refl _)⟩, by omega⟩
      rw [find_drop hg hf, hn]; rfl
    have hml := hm.len
    refine cond_d (fun n1 => ?_) fun n1 => ?_
    · refine ⟨_, _, _, rfl, (has_spec _ _ m w4 ⟨gf0, gf1⟩ (by omega)).mono ?_⟩
      rintro _ w5 ⟨rfl, hb6⟩
      have hb56 := hb5.next hb6 (Nat.le_refl _)
      refine ⟨_, rfl, cond_d (fun n2 => ⟨_, hb6.here e1, cond_d (fun n3 => ?_) fun n3 => ?_⟩) fun n2 => ?_⟩
      · have hwant : wants hs g = true := by simp [wants]; refine ⟨⟨by omega, ?_⟩, by omega⟩; omega
        have hfg : gs.find? (wants hs) = some g := by rw [find_drop hg hf, hwant]; rfl
        rw [hfg]
        unfold logs_Want.c3
        have ew : IntKind.i64.wrap (hv hs g - g.f) = hv hs g - g.f := by rw [w64 (by omega)]
        have ew1 : IntKind.i64.wrap (hv hs g + 1) = hv hs g + 1 := by rw [w64 (by omega)]
        have hm5 := hm.keep hb56
        obtain ⟨qb, hqb, hcb⟩ := hm5.get (i := hv hs g - g.f) (by omega) (by omega)
        have hqlt := hm.here hqb (by intro hh; rw [hh] at hml; simp at hml; omega)
        have hbq : Below w2.heap.size w2 w5 := hb4.next hb56 (Nat.le_refl _)
        have hwq : ∀ j, j < 3 → Wr w5.drew ((newA w).add j) := fun j hj => (hq j hj).below hbq.drew (by rw [add_block, newA_block]; omega)
        have far : ∀ p : Addr, p.block ≠ w.heap.size → ∀ a b c : Value, (setCells (newA w) [a, b, c] 0 w5.drew).cell? p = w5.cell? p := fun p hp a b c =>
          cell_setCells_out _ _ _ _ _ fun j _ he => hp (by rw [← he, add_block]; rfl)
        have hs3 := hb4.size
        have hs4 := hb5.size
        have hqb' : qb.block < w3.heap.size := hqlt
        have hmb : qb.block ≠ w.heap.size := by have := hm0.here hqb (by intro hh; rw [hh] at hml; simp at hml; omega); omega
        have f0 := hb6.here e0
        have f1 := hb6.here e1
        have f2 := hb6.here e2
        refine ⟨fun x => x.cell? (newA w3) = some (.int .i64 g.c) ∧ x.cell? ((newA w3).add 1) = some (.int .i64 g.f) ∧ x.cell? ((newA w3).add 2) = some (.slice m.a m.len m.cap) ∧ x.cell? (qb.add (hv hs g - g.f).toNat) = some (.int .i64 (g.b[(hv hs g - g.f).toNat]?.getD 0)),
          ⟨f0, f1, f2, hcb⟩, _, fun x hx => hx.1, _, _, _, fun x hx => hx.2.2.1, _, fun x hx => hx.2.1, ?_⟩
        rw [ew, ew1]
        refine ⟨by omega, by omega, qb, hqb, _, fun x hx => hx.2.2.2, hwq, ?_⟩
        have b3 : (newA w3).block ≠ w.heap.size := by rw [newA_block]; omega
        obtain ⟨r0, r1, r2⟩ := cells3 (newA w) hwq (.int .i64 g.c) (.int .i64 (hv hs g + 1)) (.int .i64 (g.b[(hv hs g - g.f).toNat]?.getD 0))
        refine ⟨⟨by rw [far _ b3]; exact f0, by rw [far _ (by rw [add_block]; exact b3)]; exact f1, by rw [far _ (by rw [add_block]; exact b3)]; exact f2, by rw [far _ (by rw [add_block]; exact hmb)]; exact hcb⟩, _, r0, _, r1, _, r2, rfl, ?_⟩
        have : Below w.heap.size w w5.drew := (hb3.next hb56 (Nat.le_refl _)).drew
        exact below_setCells (p := newA w) (Nat.le_refl w.heap.size) _ _ this
      · have hn : wants hs g = false := by simp [wants]; intro _ _; omega
        obtain ⟨k', e, h1, h2⟩ := hstep _ hb56 hn
        first | exact ⟨⟨k', e, h1⟩, h2⟩ | exact ⟨⟨rfl, rfl, rfl, rfl, k', e, h1⟩, h2⟩
      · have hn : wants hs g = false := by simp [wants]; intro _ _; omega
        obtain ⟨k', e, h1, h2⟩ := hstep _ hb56 hn
        first | exact ⟨⟨k', e, h1⟩, h2⟩ | exact ⟨⟨rfl, rfl, rfl, rfl, k', e, h1⟩, h2⟩
    · have hn : wants hs g = false := by simp [wants]; intro _; omega
      obtain ⟨k', e, h1, h2⟩ := hstep _ hb5 hn
      first | exact ⟨⟨k', e, h1⟩, h2⟩ | exact ⟨⟨rfl, rfl, rfl, rfl, k', e, h1⟩, h2⟩
  · rw [hf, List.drop_eq_nil_of_le (by omega)]
    unfold logs_Want.c1
    exact want_none (R := fun v w' => v = msgV (msgOf hs none) ∧ Below w.heap.size w w') _ (fun j hj => (hq j hj).below hb4 (by rw [add_block, newA_block]; omega)) fun w' hw' => ⟨rfl, hb3.trans (hw' _ (Nat.le_refl _))⟩

end Go.Proofs.Ytnnpkjhpeefnbaa
