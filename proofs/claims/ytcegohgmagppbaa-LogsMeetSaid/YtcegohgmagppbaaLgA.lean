/-
  Logs: how they lie in memory; whether they are right; what is wanted: contracts.
-/
import Derived.Test.YtcegohgmagppbaaLiftA
import Derived.Test.YtcegohgmagppbaaLgFns
set_option linter.unusedVariables false
set_option linter.unusedVariables false
set_option linter.unusedSimpArgs false
namespace Go.Proofs.Ytcegohgmagppbaa
open Go.Lf Go.RowKit

structure Log where
  c : Int
  f : Int
  b : List Int

def LogC (w : World) (cs : List Value) (g : Log) : Prop := ∃ m : Sl, cs = [.int .i64 g.c, .int .i64 g.f, .slice m.a m.len m.cap] ∧ Ints .i64 w m g.b
theorem LogC.stab : Stab LogC := fun _ _ _ _ hb ⟨m, hs, h⟩ => ⟨m, hs, h.keep hb⟩
theorem LogC.len {w : World} {cs : List Value} {g : Log} (h : LogC w cs g) : cs.length = 3 := by obtain ⟨m, rfl, _⟩ := h; rfl

abbrev Logs (w : World) (s : Sl) (gs : List Log) : Prop := Els 3 LogC w s gs

theorem Logs.get {w : World} {s : Sl} {gs : List Log} (h : Logs w s gs) {i : Int} (h0 : 0 ≤ i) (h1 : i < s.len) :
    ∃ p g m, s.a = some p ∧ gs[i.toNat]? = some g ∧ w.cell? (p.add (i.toNat * 3)) = some (.int .i64 g.c) ∧ w.cell? ((p.add (i.toNat * 3)).add 1) = some (.int .i64 g.f) ∧
      w.cell? ((p.add (i.toNat * 3)).add 2) = some (.slice m.a m.len m.cap) ∧ Ints .i64 w m g.b := by
  obtain ⟨p, g, cs, hp, _, hg, hc, m, rfl, hm⟩ := Els.get h h0 h1
  exact ⟨p, g, m, hp, hg, by have := hc 0 _ rfl; rwa [add_zero] at this, hc 1 _ rfl, hc 2 _ rfl, hm⟩

def okBody (b : Int) : Bool := decide (0 ≤ b) && decide (b ≤ 1048576)
def okClient (c : Int) : Bool := decide (0 ≤ c) && decide (c < 8)
def okLog (last : Int) (g : Log) : Bool := decide (last < g.c) && okClient g.c && decide (0 ≤ g.f) && decide (g.f ≤ 1073741824) && decide (g.b.length ≤ 32) && g.b.all okBody
def logsOk : Int → List Log → Bool
  | _, [] => true
  | l, g :: r => okLog l g && logsOk g.c r

theorem body_spec (b : Int) (w : World) : CallsV Try.prog n_logs_body #[.int .i64 b] w fun v w' => v = .bool (okBody b) ∧ w = w' := by
  refine logs_body.lift ?_
  unfold logs_body.main
  refine cond_d (fun h => ?_) fun h => ⟨by simp [okBody]; omega, rfl⟩
  exact ⟨by simp [okBody]; omega, rfl⟩

theorem client_spec (b : Int) (w : World) : CallsV Try.prog n_logs_client #[.int .i64 b] w fun v w' => v = .bool (okClient b) ∧ w = w' := by
  refine logs_client.lift ?_
  unfold logs_client.main
  refine cond_d (fun h => ?_) fun h => ⟨by simp [okClient]; omega, rfl⟩
  exact ⟨by simp [okClient]; omega, rfl⟩

theorem check1_spec (b : Int) (w : World) : CallsV Try.prog n_logs_Check_1 #[.int .i64 b] w fun v w' => v = .bool (!okBody b) ∧ w = w' := by
  refine logs_Check_1.lift ?_
  unfold logs_Check_1.main
  refine (body_spec b w).mono ?_
  rintro _ _ ⟨rfl, rfl⟩
  exact ⟨_, rfl, rfl, rfl⟩

theorem inc {k : Nat} (h : k < 9223372036854775807) : IntKind.i64.wrap ((k : Int) + 1) = ((k + 1 : Nat) : Int) := by rw [w64 (by omega)]; omega

theorem drop_eq {α : Type} {xs : List α} {k : Nat} {x : α} (h : xs[k]? = some x) : xs.drop k = x :: xs.drop (k + 1) := by
  obtain ⟨hk, rfl⟩ := List.getElem?_eq_some_iff.1 h
  exact List.drop_eq_getElem_cons hk

theorem bodies_spec {w : World} {s : Sl} {xs : List Int} (h : Ints .i64 w s xs) :
    CallsV Try.prog n_slices_ContainsFunc_int #[.slice s.a s.len s.cap, .func (.func n_logs_Check_1) #[] #[]] w fun v w' => v = .bool (!(xs.all okBody)) ∧ w = w' := by
  have hl := h.len
  have hsm := h.small
  refine slices_ContainsFunc_int__logs_Check_1.lift ?_
  unfold slices_ContainsFunc_int__logs_Check_1.main
  have : CallsV Try.prog n_slices_IndexFunc_int #[.slice s.a s.len s.cap, .func (.func n_logs_Check_1) #[] #[]] w fun v w' => (∃ r : Int, v = .int .i64 r ∧ decide (r ≥ 0) = !(xs.all okBody)) ∧ w = w' := by
    refine slices_IndexFunc_int__logs_Check_1.lift ?_
    unfold slices_IndexFunc_int__logs_Check_1.main slices_IndexFunc_int__logs_Check_1.l1
    refine ⟨fun t w' => (∃ k : Nat, t = k ∧ k ≤ xs.length ∧ xs.all okBody = (xs.drop k).all okBody) ∧ w = w', fun t _ => xs.length - t.toNat, ⟨⟨0, rfl, Nat.zero_le _, rfl⟩, rfl⟩, ?_⟩
    rintro _ w' ⟨⟨k, rfl, hk, he⟩, rfl⟩
    unfold slices_IndexFunc_int__logs_Check_1.b1
    refine cond_d (fun hlt => ?_) fun hge => ?_
    · obtain ⟨p, hp, hc⟩ := h.get (i := (k : Int)) (by omega) hlt
      refine ⟨by omega, hlt, p, hp, _, hc, ?_⟩
      refine (check1_spec _ w).mono ?_
      rintro _ _ ⟨rfl, rfl⟩
      refine ⟨_, rfl, ?_⟩
      have hx : xs[k]? = some (xs[k]?.getD 0) := by rw [List.getElem?_eq_getElem (by omega)]; rfl
      rw [drop_eq hx, List.all_cons] at he
      rw [Int.toNat_natCast]
      refine cond_not (fun hb => ?_) fun hb => ?_
      · refine ⟨⟨_, rfl, ?_⟩, rfl⟩
        rw [he, hb]; simp
      · rw [hb] at he
        rw [inc (by omega)]
        exact ⟨⟨rfl, rfl, rfl, ⟨k + 1, rfl, by omega, by simpa using he⟩, rfl⟩, by (try dsimp only); omega⟩
    · refine ⟨⟨_, rfl, ?_⟩, rfl⟩
      rw [he, List.drop_eq_nil_of_le (by omega)]; simp
  refine this.mono ?_
  rintro _ _ ⟨⟨r, rfl, hr⟩, rfl⟩
  exact ⟨_, rfl, by rw [← hr], rfl⟩

theorem check_spec {w : World} {s : Sl} {gs : List Log} (h : Logs w s gs) :
    CallsV Try.prog n_logs_Check #[.slice s.a s.len s.cap] w fun v w' => v = .int .i64 (if logsOk (-1) gs then 0 else 1) ∧ Below w.heap.size w w' := by
  have hl := h.len
  have hsm := h.small
  refine logs_Check.lift ?_
  unfold logs_Check.main logs_Check.l1
  refine ⟨fun t w' => ∃ k : Nat, t.2 = k ∧ k ≤ gs.length ∧ logsOk (-1) gs = logsOk t.1 (gs.drop k) ∧ Below w.heap.size w w', fun t _ => gs.length - t.2.toNat, ⟨0, rfl, Nat.zero_le _, rfl, Below.refl _ _⟩, ?_⟩
  rintro ⟨last, _⟩ w1 ⟨k, rfl, hk, he, hb⟩
  dsimp only at he ⊢
  have h1 := Els.keep LogC.stab h hb
  unfold logs_Check.b1
  refine cond_d (fun hlt => ?_) fun hge => ?_
  · obtain ⟨p, g, m, hp, hg, c0, c1, c2, hm⟩ := Logs.get h1 (i := (k : Int)) (by omega) hlt
    refine ⟨by omega, hlt, p, hp, g.c, c0, g.f, c1, m.a, m.len, m.cap, c2, ?_⟩
    rw [Int.toNat_natCast] at hg
    rw [drop_eq hg] at he
    have hb2 : Below w.heap.size w (w1.alloc (.cells #[.int .i64 g.c, .int .i64 g.f, .slice m.a m.len m.cap] 45)) := hb.next (below_alloc _ _) (Nat.le_refl _)
    have hm2 := hm.keep (below_alloc w1 (.cells #[.int .i64 g.c, .int .i64 g.f, .slice m.a m.len m.cap] 45))
    simp only [box_set3, cell_new, cell_new0, List.getElem?_toArray, List.getElem?_cons_succ, List.getElem?_cons_zero, Option.some.injEq, Value.int.injEq, true_and, exists_eq_left']
    refine ⟨fun j hj => wr_new _ _ _ hj, ?_⟩
    have bad : okLog last g = false → logsOk (-1) gs = false := by intro hh; rw [he]; unfold logsOk; rw [hh]; rfl
    refine cond_d (fun hx => ⟨by rw [bad (by simp [okLog]; omega)]; rfl, hb2⟩) fun n1 => ?_
    refine (client_spec _ _).mono ?_
    rintro _ _ ⟨rfl, rfl⟩
    refine ⟨_, rfl, cond_not (fun hx => ⟨by rw [bad (by simp [okLog, hx])]; rfl, hb2⟩) fun n2 => ?_⟩
    simp only [box_set3, cell_new, cell_new0, List.getElem?_toArray, List.getElem?_cons_succ, List.getElem?_cons_zero, Option.some.injEq, Value.int.injEq, Value.slice.injEq, true_and, exists_eq_left']
    refine cond_d (fun hx => ⟨by rw [bad (by simp [okLog]; omega)]; rfl, hb2⟩) fun n3 => ?_
    refine cond_d (fun hx => ⟨by rw [bad (by simp [okLog]; omega)]; rfl, hb2⟩) fun n4 => ?_
    have hml := hm.len
    refine ⟨m.a, m.len, m.cap, ⟨rfl, rfl, rfl⟩, cond_d (fun hx => ⟨by rw [bad (by simp [okLog]; omega)]; rfl, hb2⟩) fun n5 => ?_⟩
    refine ⟨m.a, m.len, m.cap, ⟨rfl, rfl, rfl⟩, (bodies_spec hm2).mono ?_⟩
    rintro _ _ ⟨rfl, rfl⟩
    refine ⟨_, rfl, cond_not (fun hx => ⟨by rw [bad (by simp only [okLog, hx, Bool.and_false])]; rfl, hb2⟩) fun n6 => ?_⟩
    unfold logs_Check.c2
    refine ⟨_, cell_new0 _ _ _, ?_⟩
    rw [inc (by omega)]
    refine ⟨⟨rfl, rfl, k + 1, rfl, ?_, ?_, hb2⟩, by (try dsimp only); omega⟩
    · have := (List.getElem?_eq_some_iff.1 hg).1; omega
    · rw [he]
      show (okLog last g && logsOk g.c _) = _
      have : okLog last g = true := by simp [okLog, n2]; refine ⟨⟨⟨⟨by omega, by omega⟩, by omega⟩, by omega⟩, by simpa using n6⟩
      rw [this]; rfl
  · refine ⟨?_, hb⟩
    rw [he, List.drop_eq_nil_of_le (by omega)]; rfl

theorem logsOk_mem : ∀ {gs : List Log} {l : Int}, logsOk l gs = true → ∀ g ∈ gs, l < g.c ∧ 0 ≤ g.c ∧ g.c < 8 ∧ 0 ≤ g.f ∧ g.f ≤ 1073741824 ∧ g.b.length ≤ 32 ∧ ∀ b ∈ g.b, 0 ≤ b ∧ b ≤ 1048576
  | [], _, _, g, hg => by simp at hg
  | x :: r, l, h, g, hg => by
    unfold logsOk at h
    simp only [okLog, okClient, Bool.and_eq_true, decide_eq_true_eq, List.all_eq_true] at h
    obtain ⟨⟨⟨⟨⟨⟨h1, h2, h3⟩, h4⟩, h5⟩, h6⟩, h7⟩, h8⟩ := h
    rcases List.mem_cons.1 hg with rfl | hg
    · exact ⟨h1, h2, h3, h4, h5, h6, fun b hb => by have := h7 b hb; simpa [okBody] using this⟩
    · have := logsOk_mem h8 g hg
      exact ⟨by omega, this.2⟩

def hv (hs : List Int) (g : Log) : Int := hs[g.c.toNat]?.getD 0
def wants (hs : List Int) (g : Log) : Bool := decide (0 ≤ hv hs g) && decide (hv hs g < g.f + g.b.length) && decide (g.f ≤ hv hs g)
def wantG (hs : List Int) (gs : List Log) : Option Log := if logsOk (-1) gs = true ∧ hs.length = 8 then gs.find? (wants hs) else none
def msgOf (hs : List Int) : Option Log → Int × Int × Int × Bool
  | none => (0, 0, 0, false)
  | some g => (g.c, hv hs g + 1, g.b[(hv hs g - g.f).toNat]?.getD 0, true)
def msgV (m : Int × Int × Int × Bool) : Value := .tuple #[.agg #[.int .i64 m.1, .int .i64 m.2.1, .int .i64 m.2.2.1], .bool m.2.2.2]

theorem has_spec (c f : Int) (m : Sl) (w : World) (h1 : 0 ≤ f ∧ f ≤ 1073741824) (h2 : m.len ≤ 1000000) :
    CallsV Try.prog n_logs_has #[.agg #[.int .i64 c, .int .i64 f, .slice m.a m.len m.cap]] w fun v w' => v = .int .i64 (f + m.len) ∧ Below w.heap.size w w' := by
  refine logs_has.lift ?_
  unfold logs_has.main
  intro w1
  refine ⟨f, ?_, m.a, m.len, m.cap, ?_, ?_, below_alloc _ _⟩
  · exact cell_new _ _ _ _
  · exact cell_new _ _ _ _
  · rw [w64 (by omega)]

/-- no message is told -/
theorem want_none {R : Value → World → Prop} {w : World} (q : Addr) (hw : ∀ j, j < 3 → Wr w (q.add j)) (hR : ∀ w', (∀ B, B ≤ q.block → Below B w w') → R (msgV (0, 0, 0, false)) w') :
    (∀ j, j < 3 → Wr w (q.add j)) ∧
    (let w6 := setCells q [.int .i64 0, .int .i64 0, .int .i64 0] 0 w;
    ∃ x_32 : Int, w6.cell? q = some (.int .i64 x_32) ∧
    ∃ x_33 : Int, w6.cell? (q.add 1) = some (.int .i64 x_33) ∧
    ∃ x_34 : Int, w6.cell? (q.add 2) = some (.int .i64 x_34) ∧
    R (.tuple #[.agg #[.int .i64 x_32, .int .i64 x_33, .int .i64 x_34], .bool false]) w6) := by
  refine ⟨hw, ?_⟩
  intro w6
  obtain ⟨c0, c1, c2⟩ := cells3 q hw (.int .i64 0) (.int .i64 0) (.int .i64 0)
  exact ⟨0, c0, 0, c1, 0, c2, hR _ fun B hB => below_setCells hB _ _ (Below.refl _ _)⟩

theorem find_drop {hs : List Int} {gs : List Log} {k : Nat} {g : Log} (hg : gs[k]? = some g) (h : gs.find? (wants hs) = (gs.drop k).find? (wants hs)) :
    gs.find? (wants hs) = if wants hs g = true then some g else (gs.drop (k + 1)).find? (wants hs) := by
  rw [h, drop_eq hg, List.find?_cons]
  cases wants hs g <;> rfl

theorem want_spec {w : World} {s t : Sl} {gs : List Log} {hs : List Int} (h : Logs w s gs) (ht : Ints .i64 w t hs) :
    CallsV Try.prog n_logs_Want #[.slice s.a s.len s.cap, .slice t.a t.len t.cap] w fun v w' => v = msgV (msgOf hs (wantG hs gs)) ∧ Below w.heap.size w w' := by
  have hl := h.len
  have hsm := h.small
  have htl := ht.len
  refine logs_Want.lift ?_
  unfold logs_Want.main
  intro w1
  have hb1 : Below w.heap.size w w1 := below_alloc _ _
  have hq1 : ∀ j, j < 3 → Wr w1 ((newA w).add j) := fun j hj => wr_new _ _ _ hj
  have hsz1 : w.heap.size + 1 ≤ w1.heap.size := by show _ ≤ (w.alloc _).heap.size; rw [size_alloc]; omega
  clear_value w1
  refine (check_spec (Els.keep LogC.stab h hb1)).mono ?_
  rintro _ w2 ⟨rfl, hb2⟩
  have hb : Below w.heap.size w w2 := hb1.then hb2
  have hq : ∀ j, j < 3 → Wr w2 ((newA w).add j) := fun j hj => (hq1 j hj).below hb2 (by rw [add_block, newA_block]; omega)
  have hsz : w.heap.size + 1 ≤ w2.heap.size := Nat.le_trans hsz1 hb2.size
  refine ⟨_, rfl, cond_n (fun hne => ?_) fun he => cond_n (fun hne => ?_) fun he2 => ?_⟩
  · have : wantG hs gs = none := by
      unfold wantG; rw [if_neg]; rintro ⟨h1, _⟩; rw [h1] at hne; exact hne rfl
    rw [this]
    unfold logs_Want.c5
    exact want_none (R := fun v w' => v = msgV (msgOf hs none) ∧ Below w.heap.size w w') _ hq fun w' hw' => ⟨rfl, hb.trans (hw' _ (Nat.le_refl _))⟩
  · have : wantG hs gs = none := by
      unfold wantG; rw [if_neg]; rintro ⟨_, h1⟩; omega
    rw [this]
    unfold logs_Want.c5
    exact want_none (R := fun v w' => v = msgV (msgOf hs none) ∧ Below w.heap.size w w') _ hq fun w' hw' => ⟨rfl, hb.trans (hw' _ (Nat.le_refl _))⟩
  have hok : logsOk (-1) gs = true := by
    cases hh : logsOk (-1) gs with
    | true => rfl
    | false => rw [hh] at he; simp at he
  have hlen : hs.length = 8 := by omega
  have hG : wantG hs gs = gs.find? (wants hs) := by unfold wantG; rw [if_pos ⟨hok, hlen⟩]
  rw [hG]
  unfold logs_Want.c4 logs_Want.l2
  refine ⟨fun i w' => ∃ k : Nat, i = k ∧ k ≤ gs.length ∧ gs.find? (wants hs) = (gs.drop k).find? (wants hs) ∧ Below w.heap.size w w' ∧ Below w2.heap.size w2 w', fun i _ => gs.length - i.toNat, ⟨0, rfl, Nat.zero_le _, rfl, hb, Below.refl _ _⟩, ?_⟩
  rintro _ w3 ⟨k, rfl, hk, hf, hb3, hb4⟩
  have h3 := Els.keep LogC.stab h hb3
  have ht3 := ht.keep hb3
  unfold logs_Want.b2
  refine cond_d (fun hlt => ?_) fun hge => ?_
  · obtain ⟨p, g, m, hp, hg, c0, c1, c2, hm0⟩ := Logs.get h (i := (k : Int)) (by omega) hlt
    have hm := hm0.keep hb3
    replace c0 := hb3.here c0
    replace c1 := hb3.here c1
    replace c2 := hb3.here c2
    rw [Int.toNat_natCast] at hg
    obtain ⟨_, g0, g8, gf0, gf1, gl, gb⟩ := logsOk_mem hok g (List.mem_of_getElem? hg)
    refine ⟨by omega, hlt, p, hp, g.c, c0, g.f, c1, m.a, m.len, m.cap, c2, ?_⟩
    simp only [box_set3, cell_new, cell_new0, List.getElem?_toArray, List.getElem?_cons_succ, List.getElem?_cons_zero, Option.some.injEq, Value.int.injEq, true_and, exists_eq_left']
    refine ⟨fun j hj => wr_new _ _ _ hj, ?_⟩
    generalize hw4 : w3.alloc (.cells #[.int .i64 g.c, .int .i64 g.f, .slice m.a m.len m.cap] 45) = w4
    have hb5 : Below w3.heap.size w3 w4 := by rw [← hw4]; exact below_alloc _ _
    have ht4 := ht3.keep hb5
    obtain ⟨q, hq4, hc4⟩ := ht4.get g0 (by omega : g.c < t.len)
    refine ⟨g0, by omega, q, hq4, hv hs g, hc4, ?_⟩
    have e0 : w4.cell? (newA w3) = some (.int .i64 g.c) := by rw [← hw4]; exact cell_new0 _ _ _
    have e1 : w4.cell? ((newA w3).add 1) = some (.int .i64 g.f) := by rw [← hw4]; exact cell_new _ _ _ _
    have e2 : w4.cell? ((newA w3).add 2) = some (.slice m.a m.len m.cap) := by rw [← hw4]; exact cell_new _ _ _ _
    have hsz4 : w3.heap.size < w4.heap.size := by rw [← hw4, size_alloc]; omega
    have hstep : ∀ w5, Below w3.heap.size w3 w5 → wants hs g = false → ∃ k' : Nat, IntKind.i64.wrap ((k : Int) + 1) = k' ∧ (k' ≤ gs.length ∧ gs.find? (wants hs) = (gs.drop k').find? (wants hs) ∧ Below w.heap.size w w5 ∧ Below w2.heap.size w2 w5) ∧ gs.length - (IntKind.i64.wrap ((k : Int) + 1)).toNat < gs.length - (k : Int).toNat := by
      intro w5 hb5 hn
      have := (List.getElem?_eq_some_iff.1 hg).1
      rw [inc (by omega)]
      refine ⟨k + 1, rfl, ⟨by omega, ?_, hb3.next hb5 (Nat.le_refl _), hb4.next hb5 (Nat.le_refl _)⟩, by omega⟩
      rw [find_drop hg hf, hn]; rfl
    have hml := hm.len
    refine cond_d (fun n1 => ?_) fun n1 => ?_
    · refine ⟨_, _, _, rfl, (has_spec _ _ m w4 ⟨gf0, gf1⟩ (by omega)).mono ?_⟩
      rintro _ w5 ⟨rfl, hb6⟩
      have hb56 := hb5.next hb6 (Nat.le_refl _)
      refine ⟨_, rfl, cond_d (fun n2 => ⟨_, hb6.here e1, cond_d (fun n3 => ?_) fun n3 => ?_⟩) fun n2 => ?_⟩
      · have hwant : wants hs g = true := by simp [wants]; refine ⟨⟨by omega, ?_⟩, by omega⟩; omega
        have hfg : gs.find? (wants hs) = some g := by rw [find_drop hg hf, hwant]; rfl
        rw [hfg]
        unfold logs_Want.c3
        have ew : IntKind.i64.wrap (hv hs g - g.f) = hv hs g - g.f := by rw [w64 (by omega)]
        have ew1 : IntKind.i64.wrap (hv hs g + 1) = hv hs g + 1 := by rw [w64 (by omega)]
        have hm5 := hm.keep hb56
        obtain ⟨qb, hqb, hcb⟩ := hm5.get (i := hv hs g - g.f) (by omega) (by omega)
        have hqlt := hm.here hqb (by intro hh; rw [hh] at hml; simp at hml; omega)
        have hbq : Below w2.heap.size w2 w5 := hb4.next hb56 (Nat.le_refl _)
        have hwq : ∀ j, j < 3 → Wr w5.drew ((newA w).add j) := fun j hj => (hq j hj).below hbq.drew (by rw [add_block, newA_block]; omega)
        have far : ∀ p : Addr, p.block ≠ w.heap.size → ∀ a b c : Value, (setCells (newA w) [a, b, c] 0 w5.drew).cell? p = w5.cell? p := fun p hp a b c =>
          cell_setCells_out _ _ _ _ _ fun j _ he => hp (by rw [← he, add_block]; rfl)
        have hs3 := hb4.size
        have hs4 := hb5.size
        have hqb' : qb.block < w3.heap.size := hqlt
        have hmb : qb.block ≠ w.heap.size := by have := hm0.here hqb (by intro hh; rw [hh] at hml; simp at hml; omega); omega
        have f0 := hb6.here e0
        have f1 := hb6.here e1
        have f2 := hb6.here e2
        refine ⟨fun x => x.cell? (newA w3) = some (.int .i64 g.c) ∧ x.cell? ((newA w3).add 1) = some (.int .i64 g.f) ∧ x.cell? ((newA w3).add 2) = some (.slice m.a m.len m.cap) ∧ x.cell? (qb.add (hv hs g - g.f).toNat) = some (.int .i64 (g.b[(hv hs g - g.f).toNat]?.getD 0)),
          ⟨f0, f1, f2, hcb⟩, _, fun x hx => hx.1, _, _, _, fun x hx => hx.2.2.1, _, fun x hx => hx.2.1, ?_⟩
        rw [ew, ew1]
        refine ⟨by omega, by omega, qb, hqb, _, fun x hx => hx.2.2.2, hwq, ?_⟩
        have b3 : (newA w3).block ≠ w.heap.size := by rw [newA_block]; omega
        obtain ⟨r0, r1, r2⟩ := cells3 (newA w) hwq (.int .i64 g.c) (.int .i64 (hv hs g + 1)) (.int .i64 (g.b[(hv hs g - g.f).toNat]?.getD 0))
        refine ⟨_, r0, _, r1, _, r2, rfl, ?_⟩
        have : Below w.heap.size w w5.drew := (hb3.next hb56 (Nat.le_refl _)).drew
        exact below_setCells (p := newA w) (Nat.le_refl w.heap.size) _ _ this
      · have hn : wants hs g = false := by simp [wants]; intro _ _; omega
        obtain ⟨k', e, h1, h2⟩ := hstep _ hb56 hn
        first | exact ⟨⟨k', e, h1⟩, h2⟩ | exact ⟨⟨rfl, rfl, rfl, rfl, k', e, h1⟩, h2⟩
      · have hn : wants hs g = false := by simp [wants]; intro _ _; omega
        obtain ⟨k', e, h1, h2⟩ := hstep _ hb56 hn
        first | exact ⟨⟨k', e, h1⟩, h2⟩ | exact ⟨⟨rfl, rfl, rfl, rfl, k', e, h1⟩, h2⟩
    · have hn : wants hs g = false := by simp [wants]; intro _; omega
      obtain ⟨k', e, h1, h2⟩ := hstep _ hb5 hn
      first | exact ⟨⟨k', e, h1⟩, h2⟩ | exact ⟨⟨rfl, rfl, rfl, rfl, k', e, h1⟩, h2⟩
  · rw [hf, List.drop_eq_nil_of_le (by omega)]
    unfold logs_Want.c1
    exact want_none (R := fun v w' => v = msgV (msgOf hs none) ∧ Below w.heap.size w w') _ (fun j hj => (hq j hj).below hb4 (by rw [add_block, newA_block]; omega)) fun w' hw' => ⟨rfl, hb3.trans (hw' _ (Nat.le_refl _))⟩

end Go.Proofs.Ytcegohgmagppbaa

/-
  Logs: what is heavy, twins of numbers, messages, wakes, spoils; logs that a call has made.
-/
set_option linter.unusedVariables false
set_option linter.unusedSimpArgs false
namespace Go.Proofs.Ytcegohgmagppbaa
open Go.Lf Go.RowKit

def heavyG (gs : List Log) : Bool := decide (50 < gs.length) || gs.any fun g => decide (100 < g.b.length)

theorem heavy_spec {w : World} {s : Sl} {gs : List Log} (h : Logs w s gs) :
    CallsV Try.prog n_trystlaw25_Heavy #[.slice s.a s.len s.cap] w fun v w' => v = .bool (heavyG gs) ∧ w = w' := by
  have hl := h.len
  refine trystlaw25_Heavy.lift ?_
  unfold trystlaw25_Heavy.main
  refine cond_d (fun hx => ⟨by simp [heavyG]; omega, rfl⟩) fun hx => ?_
  unfold trystlaw25_Heavy.l1
  refine ⟨fun i w' => (∃ k : Nat, i = k ∧ k ≤ gs.length ∧ heavyG gs = (gs.drop k).any fun g => decide (100 < g.b.length)) ∧ w = w', fun i _ => gs.length - i.toNat, ⟨⟨0, rfl, Nat.zero_le _, ?_⟩, rfl⟩, ?_⟩
  · unfold heavyG; rw [decide_eq_false (by omega)]; rfl
  rintro _ _ ⟨⟨k, rfl, hk, he⟩, rfl⟩
  unfold trystlaw25_Heavy.b1
  refine cond_d (fun hlt => ?_) fun hge => ?_
  · obtain ⟨p, g, m, hp, hg, c0, c1, c2, hm⟩ := Logs.get h (i := (k : Int)) (by omega) hlt
    rw [Int.toNat_natCast] at hg
    rw [drop_eq hg, List.any_cons] at he
    have hml := hm.len
    refine ⟨by omega, hlt, p, hp, _, _, _, c2, cond_d (fun hy => ?_) fun hy => ?_⟩
    · exact ⟨by rw [he, decide_eq_true (by omega)]; rfl, rfl⟩
    · intro i2
      have hi2 : i2 = ((k + 1 : Nat) : Int) := inc (by omega)
      clear_value i2
      subst hi2
      refine ⟨⟨rfl, ⟨k + 1, rfl, ?_, by rw [he, decide_eq_false (by omega)]; rfl⟩, rfl⟩, by (try dsimp only); omega⟩
      have := (List.getElem?_eq_some_iff.1 hg).1; omega
  · exact ⟨by rw [he, List.drop_eq_nil_of_le (by omega)]; rfl, rfl⟩

theorem info_int : ∃ i, Try.prog.info? 3 = some i ∧ i.zero = some (.int .i64 0) ∧ i.size = 1 ∧ i.bytes = 8 := ⟨Try.t3, by kernel_rfl, by kernel_rfl, by kernel_rfl, by kernel_rfl⟩

theorem twinInts_spec {w : World} {s : Sl} {xs : List Int} (h : Ints .i64 w s xs) (hx : xs.length ≤ 1000000) :
    CallsV Try.prog n_trystkeep_TwinInts #[.slice s.a s.len s.cap] w fun v w' => ∃ s' : Sl, v = .slice s'.a s'.len s'.cap ∧ OwnI w.heap.size 3 .i64 w' s' xs ∧ Below w.heap.size w w' := by
  refine trystkeep_TwinInts.lift ?_
  obtain ⟨i, hi, hz, hsz, hby⟩ := info_int
  obtain ⟨s', w', hr, ho, hb⟩ := append_all (ty := 23) Try.underlying23 hi hz hsz hby rfl h (by unfold maxLen; omega) (by omega)
  exact ⟨_, _, _, _, hr, s', rfl, ho, hb⟩

theorem msg_spec (a b c x y z : Int) (w : World) : CallsV Try.prog n_trystkeep_Msg #[.agg #[.int .i64 a, .int .i64 b, .int .i64 c], .agg #[.int .i64 x, .int .i64 y, .int .i64 z]] w fun v w' => v = .bool (decide (a = x ∧ b = y ∧ c = z)) ∧ Below w.heap.size w w' := by
  refine trystkeep_Msg.lift ?_
  unfold trystkeep_Msg.main
  intro w1 w2
  have hb : Below w.heap.size w w2 := (below_alloc _ _).then (below_alloc _ _)
  have a0 : w2.cell? (newA w) = some (.int .i64 a) := cell_alloc_old (cell_new0 _ _ _)
  have a1 : w2.cell? ((newA w).add 1) = some (.int .i64 b) := cell_alloc_old (cell_new _ _ _ _)
  have a2 : w2.cell? ((newA w).add 2) = some (.int .i64 c) := cell_alloc_old (cell_new _ _ _ _)
  refine ⟨_, a0, _, cell_new0 _ _ _, cond_e (fun h1 => ?_) fun h1 => ⟨by simp [h1], hb⟩⟩
  refine ⟨_, a1, _, cell_new _ _ _ _, cond_e (fun h2 => ?_) fun h2 => ⟨by simp [h2], hb⟩⟩
  refine ⟨_, a2, _, cell_new _ _ _ _, ?_, hb⟩
  rw [h1, h2]; congr 1; rw [Bool.eq_iff_iff]; simp

theorem Ints.made {w : World} {e : TypeId} {xs : List Int} {cells : Array Value} (hc : cells = (xs.map (Value.int .i64)).toArray) (hs : xs.length ≤ 1000000) : Ints .i64 (w.alloc (.cells cells e)) ⟨some (newA w), xs.length, xs.length⟩ xs := by
  subst hc
  refine ⟨rfl, by simp only; omega, fun i x hx => ⟨newA w, rfl, by rw [size_alloc, newA_block]; omega, ?_⟩⟩
  rw [cell_new]
  simp [hx]

theorem wakes_spec (w : World) : CallsV Try.prog n_trystlaw25_wakes #[] w fun v w' => v = .bool true ∧ Below w.heap.size w w' := by
  refine trystlaw25_wakes.lift ?_
  unfold trystlaw25_wakes.main
  intro w1 w2 w3
  have b1 : Below w.heap.size w w1 := below_alloc _ _
  have b2 : Below w1.heap.size w1 w2 := below_alloc _ _
  have b3 : Below w2.heap.size w2 w3 := below_alloc _ _
  have i1 : Ints .i64 w1 ⟨some (newA w), 3, 3⟩ [5, 6, 7] := Ints.made (xs := [5, 6, 7]) rfl (by decide)
  have i3 : Ints .i64 w3 ⟨some (newA w2), 8, 8⟩ [0, 1, 0, 0, 0, 0, 0, 0] := Ints.made (xs := [0, 1, 0, 0, 0, 0, 0, 0]) rfl (by decide)
  have g2 : Logs w2 ⟨some (newA w1), 1, 1⟩ [⟨1, 0, [5, 6, 7]⟩] := by
    refine ⟨rfl, by show 1 ≤ 9223372036854775807; omega, fun i x hx => ?_⟩
    cases i with
    | succ i => simp at hx
    | zero =>
      simp at hx
      subst hx
      refine ⟨newA w1, [.int .i64 1, .int .i64 0, .slice (some (newA w)) 3 3], rfl, by rw [size_alloc, newA_block]; omega, fun j u hu => ?_, ⟨some (newA w), 3, 3⟩, rfl, i1.keep b2⟩
      rw [Nat.zero_mul, Nat.zero_add]
      refine (cell_new _ _ _ _).trans ?_
      simpa using hu
  refine (want_spec (Els.keep LogC.stab g2 b3) i3).mono ?_
  rintro _ w4 ⟨rfl, b4⟩
  have hv : msgOf [0, 1, 0, 0, 0, 0, 0, 0] (wantG [0, 1, 0, 0, 0, 0, 0, 0] [⟨1, 0, [5, 6, 7]⟩]) = (1, 2, 6, true) := by decide
  rw [hv]
  refine ⟨1, 2, 6, true, rfl, ?_⟩
  simp only [box_set3, cell_new, cell_new0, List.getElem?_toArray, List.getElem?_cons_succ, List.getElem?_cons_zero, Option.some.injEq, Value.int.injEq, true_and, exists_eq_left']
  refine ⟨fun j hj => wr_new _ _ _ hj, ?_⟩
  exact ⟨rfl, ((b1.then b2).then b3).then (b4.then (below_alloc _ _))⟩
theorem ints_spec {w : World} {s t : Sl} {xs ys : List Int} (h : Ints .i64 w s xs) (h' : Ints .i64 w t ys) :
    CallsV Try.prog n_trystkeep_Ints #[.slice s.a s.len s.cap, .slice t.a t.len t.cap] w fun v w' => v = .bool (decide (xs = ys)) ∧ Same w w' := by
  refine trystkeep_Ints.lift ?_
  have hl := h.len
  have hl' := h'.len
  have hsm := h.small
  unfold trystkeep_Ints.main
  refine cond_n (fun hne => ⟨by rw [decide_eq_false (fun he => hne (by rw [hl, hl', he]))], Same.refl _⟩) fun he => ?_
  unfold trystkeep_Ints.l1
  refine ⟨fun st w' => Same w w' ∧ ∃ k : Nat, st = k ∧ k ≤ xs.length ∧ xs.take k = ys.take k, fun st _ => xs.length - st.toNat, ⟨Same.refl _, 0, rfl, Nat.zero_le _, rfl⟩, ?_⟩
  rintro _ w' ⟨hs, k, rfl, hle, htk⟩
  unfold trystkeep_Ints.b1
  refine cond_d (fun hlt => ?_) fun hge => ⟨?_, hs⟩
  · obtain ⟨p, hp, hc⟩ := (h.same hs).get (i := (k : Int)) (by omega) (by omega)
    obtain ⟨q, hq, hd⟩ := (h'.same hs).get (i := (k : Int)) (by omega) (by omega)
    refine ⟨by omega, by omega, p, hp, _, hc, by omega, by omega, q, hq, _, hd, ?_⟩
    have hk : k < xs.length := by omega
    have hk' : k < ys.length := by omega
    rw [Int.toNat_natCast, List.getElem?_eq_getElem hk, List.getElem?_eq_getElem hk', Option.getD_some, Option.getD_some, inc (by omega)]
    refine cond_n (fun hne => ⟨?_, hs.drew'⟩) fun heq => ?_
    · rw [decide_eq_false]
      intro hxy
      subst hxy
      exact hne rfl
    · refine ⟨⟨rfl, rfl, hs.drew', k + 1, rfl, by omega, ?_⟩, by (try dsimp only); omega⟩
      rw [List.take_succ_eq_append_getElem hk, List.take_succ_eq_append_getElem hk', htk, heq]
  · rw [decide_eq_true]
    rwa [List.take_of_length_le (by omega), List.take_of_length_le (by omega)] at htk

theorem Ints.after {k : IntKind} {w w' : World} {s : Sl} {xs : List Int} (h : Ints k w s xs) (hb : Below w.heap.size w w') : Ints k w' s xs := h.keep hb

theorem spoil_spec {B : Nat} {w : World} {s : Sl} {xs : List Int} {R : List Asn} (h : Sep B w (rowA 3 1 s xs.length (xs.map (Value.int .i64)) :: R)) (hx : xs.length ≤ 9223372036854775807) :
    CallsV Try.prog n_trystkeep_SpoilInts #[.slice s.a s.len s.cap] w fun v w' => v = .tuple #[] ∧ Sep B w' R ∧ Below B w w' := by
  refine trystkeep_SpoilInts.lift ?_
  unfold trystkeep_SpoilInts.main trystkeep_SpoilInts.l1
  have hl := (h.rowLen 0 rfl).1
  refine ⟨fun t w' => ∃ k : Nat, t = k ∧ k ≤ xs.length ∧ ∃ ys : List Int, ys.length = xs.length ∧ Sep B w' (rowA 3 1 s ys.length (ys.map (Value.int .i64)) :: R) ∧ Below B w w', fun t _ => xs.length - t.toNat, ⟨0, rfl, Nat.zero_le _, xs, rfl, h, Below.refl _ _⟩, ?_⟩
  rintro _ w1 ⟨k, rfl, hk, ys, hy, h1, hb⟩
  unfold trystkeep_SpoilInts.b1
  refine cond_d (fun hlt => ?_) fun hge => ⟨rfl, h1.drop, hb⟩
  have hk' : k < ys.length := by omega
  obtain ⟨q, hq, hc⟩ := h1.rowCell 0 rfl (j := k) (by rw [List.length_map]; exact hk')
  obtain ⟨h2, hb2⟩ := h1.rowSet 0 rfl hq (j := k) (by rw [List.length_map]; exact hk') (.int .i64 (-7777))
  refine ⟨by omega, hlt, q, hq, by rw [Int.toNat_natCast]; exact h1.rowWr 0 rfl hq (by rw [List.length_map]; exact hk'), ?_⟩
  rw [Int.toNat_natCast, inc (by omega)]
  refine ⟨⟨rfl, k + 1, rfl, by omega, ys.set k (-7777), by rw [List.length_set, hy], ?_, hb.trans hb2⟩, by (try dsimp only); omega⟩
  rw [List.length_set, List.map_set]; exact h2


theorem info_log : ∃ i, Try.prog.info? 45 = some i ∧ i.zero = some (.agg #[.int .i64 0, .int .i64 0, .slice none 0 0]) ∧ i.size = 3 ∧ i.bytes = 40 := ⟨Try.t45, by kernel_rfl, by kernel_rfl, by kernel_rfl, by kernel_rfl⟩

/-! logs that a call has made: the row, and the bodies -/

abbrev LS := Log × Sl
def lgV (x : LS) : List Value := [.int .i64 x.1.c, .int .i64 x.1.f, .slice x.2.a x.2.len x.2.cap]
def bodA (x : LS) : Asn := rowA 3 1 x.2 x.1.b.length (x.1.b.map (Value.int .i64))
def lgA (s : Sl) (L : List LS) : Asn := rowA 45 3 s L.length (flat lgV L)
def New (B : Nat) (w : World) (s : Sl) (gs : List Log) : Prop := ∃ L : List LS, L.map (·.1) = gs ∧ Sep B w (lgA s L :: L.map bodA)

theorem lgV_length (x : LS) : (lgV x).length = 3 := rfl
theorem one_lgV {L : List LS} : ∀ u ∈ flat lgV L, u.oneCell' = true := by
  intro u hu
  obtain ⟨x, _, hx⟩ := List.mem_flatMap.1 hu
  simp only [lgV, List.mem_cons, List.not_mem_nil, or_false] at hx
  rcases hx with rfl | rfl | rfl <;> rfl

theorem row_ints {F : Nat → Prop} {w : World} {s : Sl} {xs : List Int} (h : (rowA 3 1 s xs.length (xs.map (Value.int .i64))).on F w) (hx : xs.length ≤ 9223372036854775807) : Ints .i64 w s xs := by
  refine ⟨(rowA.len h).1, by have := (rowA.len h).1; omega, fun i x hx => ?_⟩
  have hlt := (List.getElem?_eq_some_iff.1 hx).1
  obtain ⟨q, hq, hF, hc, hw⟩ := rowA.cell h (j := i) (by simpa using hlt)
  have := hc i (.int .i64 x) (by simp [hx])
  refine ⟨q, hq, ?_, this⟩
  have := World.block_lt_of_cell? _ _ this
  rwa [add_block] at this

end Go.Proofs.Ytcegohgmagppbaa

/-
  Logs: logs that a call has made; clones and twins of them.
-/
set_option linter.unusedVariables false
set_option linter.unusedSimpArgs false
namespace Go.Proofs.Ytcegohgmagppbaa
open Go.Lf Go.RowKit

theorem _root_.Go.Lf.Sep.lower {B B' : Nat} {w : World} {l : List Asn} (h : Sep B w l) (hB : B' ≤ B) : Sep B' w l := ⟨Nat.le_trans hB h.le, h.sep.mono fun i hi => ⟨Nat.le_trans hB hi.1, hi.2⟩⟩

def Fit (gs : List Log) : Prop := gs.length ≤ 1000 ∧ ∀ g ∈ gs, g.b.length ≤ 1000

theorem Sep.body {B : Nat} {w : World} {l : List Asn} {x : LS} (hm : bodA x ∈ l) (h : Sep B w l) (hx : x.1.b.length ≤ 1000) : Ints .i64 w x.2 x.1.b := by
  obtain ⟨k, hk, he⟩ := List.getElem_of_mem hm
  obtain ⟨F, h1, _⟩ := h.get k (A := bodA x) (by rw [List.getElem?_eq_getElem hk, he])
  exact row_ints h1 (by omega)

theorem Sep.logs {B : Nat} {w : World} {l : List Asn} (k : Nat) {s : Sl} {L : List LS} (hk : l[k]? = some (lgA s L)) (hm : ∀ x ∈ L, bodA x ∈ l) (h : Sep B w l) (hf : Fit (L.map (·.1))) : Logs w s (L.map (·.1)) := by
  have hl := h.rowLen k hk
  refine ⟨by rw [hl.1, List.length_map], by have := hf.1; rw [List.length_map] at this; omega, fun i g hg => ?_⟩
  rw [List.getElem?_map, Option.map_eq_some_iff] at hg
  obtain ⟨x, hx, rfl⟩ := hg
  obtain ⟨q, hq, hc⟩ := Sep.rowGet k (by omega) lgV_length hk h hx
  have hmem := List.mem_of_getElem? hx
  have := hc 0 _ rfl
  have hlt := World.block_lt_of_cell? _ _ this
  rw [add_block, add_block] at hlt
  exact ⟨q, lgV x, hq, hlt, fun j u hu => by have := hc j u hu; rwa [add_add] at this, x.2, rfl, Sep.body (hm x hmem) h (hf.2 _ (List.mem_map_of_mem hmem))⟩

theorem New.logs {B : Nat} {w : World} {s : Sl} {gs : List Log} (h : New B w s gs) (hf : Fit gs) : Logs w s gs := by
  obtain ⟨L, rfl, h⟩ := h
  exact Sep.logs 0 rfl (fun x hx => List.mem_cons_of_mem _ (List.mem_map_of_mem hx)) h hf
theorem New.nil {B : Nat} {w : World} (h : B ≤ w.heap.size) : New B w ⟨none, 0, 0⟩ [] := ⟨[], rfl, (Sep.nil h).rowNil 45 3⟩
theorem New.keep {B : Nat} {w w' : World} {s : Sl} {gs : List Log} (h : New B w s gs) (hb : Below w.heap.size w w') : New B w' s gs := by
  obtain ⟨L, hL, h⟩ := h
  exact ⟨L, hL, h.keep hb⟩
theorem New.lower {B B' : Nat} {w : World} {s : Sl} {gs : List Log} (h : New B w s gs) (hB : B' ≤ B) : New B' w s gs := by
  obtain ⟨L, hL, h⟩ := h
  exact ⟨L, hL, h.lower hB⟩

theorem pick {α β : Type} : ∀ {xs : List α} {P : Nat → α → β → Prop}, (∀ i x, xs[i]? = some x → ∃ m, P i x m) → ∃ L : List (α × β), L.map (·.1) = xs ∧ ∀ (i : Nat) (y : α × β), L[i]? = some y → P i y.1 y.2
  | [], P, _ => ⟨[], rfl, fun i y h => by simp at h⟩
  | x :: xs, P, h => by
    obtain ⟨m, hm⟩ := h 0 x rfl
    obtain ⟨L, hL, hP⟩ := pick (xs := xs) (P := fun i => P (i + 1)) fun i x hx => h (i + 1) x (by simpa using hx)
    refine ⟨(x, m) :: L, by simp [hL], fun i y hy => ?_⟩
    cases i with
    | zero => simp at hy; subst hy; exact hm
    | succ i => exact hP i y (by simpa using hy)

/-- the cells of logs -/
theorem Logs.raw {w : World} {s : Sl} {gs : List Log} (h : Logs w s gs) : ∃ L : List LS, L.map (·.1) = gs ∧ (∀ q, s.a = some q → ∀ (j : Nat) (u : Value), (flat lgV L)[j]? = some u → w.cell? (q.add j) = some u) ∧ (∀ x ∈ L, Ints .i64 w x.2 x.1.b) ∧ (s.a = none → L = []) := by
  obtain ⟨L, hL, hP⟩ := pick (P := fun i (g : Log) (m : Sl) => (∃ p, s.a = some p ∧ ∀ (j : Nat) (u : Value), (lgV (g, m))[j]? = some u → w.cell? (p.add (i * 3 + j)) = some u) ∧ Ints .i64 w m g.b) fun i g hg => by
    obtain ⟨p, cs, hp, _, hc, m, rfl, hm⟩ := h.el i g hg
    exact ⟨m, ⟨p, hp, hc⟩, hm⟩
  refine ⟨L, hL, fun q hq j u hu => ?_, fun x hx => ?_, fun hn => ?_⟩
  · have hlt := (List.getElem?_eq_some_iff.1 hu).1
    rw [flat_length lgV_length] at hlt
    have hi : j / 3 < L.length := by omega
    obtain ⟨⟨p, hp, hc⟩, _⟩ := hP (j / 3) _ (List.getElem?_eq_getElem hi)
    rw [hq] at hp
    obtain rfl := Option.some.inj hp
    have hg := flat_get lgV_length (List.getElem?_eq_getElem hi) (Nat.mod_lt j (by omega : 0 < 3))
    have e : j / 3 * 3 + j % 3 = j := by omega
    rw [e, hu] at hg
    have := hc (j % 3) u hg.symm
    rwa [e] at this
  · obtain ⟨i, hi, rfl⟩ := List.getElem_of_mem hx
    exact (hP i _ (List.getElem?_eq_getElem hi)).2
  · cases L with
    | nil => rfl
    | cons x r =>
      obtain ⟨⟨p, hp, _⟩, _⟩ := hP 0 x rfl
      rw [hn] at hp; cases hp

/-! clones -/

theorem cloneI_spec {w : World} {s : Sl} {xs : List Int} (h : Ints .i64 w s xs) (hx : xs.length ≤ 1000) :
    CallsV Try.prog n_slices_Clone_int #[.slice s.a s.len s.cap] w fun v w' => ∃ s' : Sl, v = .slice s'.a s'.len s'.cap ∧ OwnI w.heap.size 3 .i64 w' s' xs ∧ Below w.heap.size w w' := by
  refine slices_Clone_int.lift ?_
  unfold slices_Clone_int.main
  refine cond_c (fun hn => ?_) fun hn => ?_
  · have hn' : s.a = none := by simpa using hn
    have : xs = [] := by
      cases xs with
      | nil => rfl
      | cons x r => obtain ⟨p, hp, _⟩ := h.cell 0 x rfl; rw [hn'] at hp; cases hp
    subst this
    exact ⟨⟨none, 0, 0⟩, rfl, OwnI.nil, Below.refl _ _⟩
  · cases ha : s.a with
    | none => rw [ha] at hn; simp at hn
    | some a =>
      obtain ⟨i, hi, hz, hsz, hby⟩ := info_int
      obtain ⟨s', w', hr, ho, hb⟩ := clone_ints (P := Try.prog) (ty := 23) Try.underlying23 hi hz hsz hby h ha (by unfold maxLen; omega) (by omega)
      rw [ha] at hr
      exact ⟨_, _, _, _, hr, s', rfl, ho, hb⟩

theorem cloneL_spec {w : World} {s : Sl} {L : List LS} (hl : s.len = L.length) (hc : ∀ q, s.a = some q → ∀ (j : Nat) (u : Value), (flat lgV L)[j]? = some u → w.cell? (q.add j) = some u) (hn : s.a = none → L = []) (hx : L.length ≤ 1001) :
    CallsV Try.prog n_slices_Clone_Log #[.slice s.a s.len s.cap] w fun v w' => ∃ s' : Sl, v = .slice s'.a s'.len s'.cap ∧ (∀ B l, Sep B w l → Sep B w' (lgA s' L :: l)) ∧ Below w.heap.size w w' := by
  refine slices_Clone_Log.lift ?_
  unfold slices_Clone_Log.main
  refine cond_c (fun hn' => ?_) fun hn' => ?_
  · have := hn (by simpa using hn')
    subst this
    exact ⟨⟨none, 0, 0⟩, rfl, fun B l h => h.rowNil 45 3, Below.refl _ _⟩
  · cases ha : s.a with
    | none => rw [ha] at hn'; simp at hn'
    | some a =>
      obtain ⟨i, hi, hz, hsz, hby⟩ := info_log
      obtain ⟨s', w', hr, hln, ho, hb⟩ := clone_go (P := Try.prog) (ty := 24) (size := 3) (c := s.cap) Try.underlying24 hi hz hsz hby rfl (by omega) (w := w) (m := L.length) (news := flat lgV L) (flat_length lgV_length L) (hc a ha) one_lgV (by unfold maxLen; omega) (by omega)
      rw [← hl] at hr
      exact ⟨_, _, _, _, hr, s', rfl, fun B l h => h.row ho hb, hb⟩

/-- a log's bodies are put anew -/
theorem flat_bod {L : List LS} {k : Nat} {g : Log} {m t : Sl} {b : List Int} (hk : L[k]? = some (g, m)) : (flat lgV L).set (k * 3 + 2) (.slice t.a t.len t.cap) = flat lgV (L.set k (⟨g.c, g.f, b⟩, t)) := by
  rw [flat_set lgV_length (List.getElem?_eq_some_iff.1 hk).1]
  have h0 := flat_get lgV_length hk (j := 0) (by omega)
  have h1 := flat_get lgV_length hk (j := 1) (by omega)
  apply List.ext_getElem?
  intro j
  simp only [setsL, lgV]
  simp only [List.getElem?_set, List.length_set]
  have hlt := (List.getElem?_eq_some_iff.1 hk).1
  have hl := flat_length lgV_length L
  by_cases e2 : k * 3 + 2 = j
  · subst e2; simp only [if_true]
  · simp only [e2, if_false]
    have e2' : ¬ (k * 3 + 1 + 1 = j) := by omega
    try simp only [e2', if_false]
    by_cases e1 : k * 3 + 1 = j
    · subst e1; rw [h1]; simp [lgV]; omega
    · simp only [e1, if_false]
      by_cases e0 : k * 3 = j
      · subst e0; simp at h0; rw [h0]; simp [lgV]; omega
      · simp only [e0, if_false]

end Go.Proofs.Ytcegohgmagppbaa

/-
  Logs: twins.
-/
set_option linter.unusedVariables false
set_option linter.unusedSimpArgs false
namespace Go.Proofs.Ytcegohgmagppbaa
open Go.Lf Go.RowKit

theorem set_mid {α : Type} {a r : List α} {x y : α} : (a ++ x :: r).set a.length y = a ++ y :: r := by
  rw [List.set_append_right _ _ (Nat.le_refl _)]; simp

theorem twin_spec {w : World} {s : Sl} {gs : List Log} (h : Logs w s gs) (hf : Fit gs) :
    CallsV Try.prog n_logs_twin #[.slice s.a s.len s.cap] w fun v w' => ∃ s' : Sl, v = .slice s'.a s'.len s'.cap ∧ New w.heap.size w' s' gs ∧ Below w.heap.size w w' := by
  obtain ⟨L, rfl, hc, hI, hn⟩ := h.raw
  have hl := h.len
  rw [List.length_map] at hl
  have hL : L.length ≤ 1000 := by have := hf.1; rwa [List.length_map] at this
  refine logs_twin.lift ?_
  unfold logs_twin.main
  refine (cloneL_spec hl hc hn (by omega)).mono ?_
  rintro _ w1 ⟨s1, rfl, hS, hb⟩
  refine ⟨_, _, _, rfl, ?_⟩
  have h1 := hS w.heap.size [] (Sep.nil (Nat.le_refl _))
  have hl1 := (h1.rowLen 0 rfl).1
  unfold logs_twin.l1
  refine ⟨fun t w' => ∃ k : Nat, t = k ∧ k ≤ L.length ∧ ∃ L' : List LS, L'.map (·.1) = (L.take k).map (·.1) ∧ Sep w.heap.size w' (lgA s1 (L' ++ L.drop k) :: L'.map bodA) ∧ Below w.heap.size w w', fun t _ => L.length - t.toNat, ⟨0, rfl, Nat.zero_le _, [], rfl, h1, hb⟩, ?_⟩
  rintro _ w2 ⟨k, rfl, hk, L', hL', h2, hb2⟩
  have hk' : L'.length = k := by have := congrArg List.length hL'; simp only [List.length_map, List.length_take] at this; omega
  unfold logs_twin.b1
  refine cond_d (fun hlt => ?_) fun hge => ?_
  · have hk1 : k < L.length := by omega
    have hg : (L' ++ L.drop k)[k]? = some L[k] := by rw [List.getElem?_append_right (by omega), hk', Nat.sub_self, List.getElem?_drop, Nat.add_zero, List.getElem?_eq_getElem hk1]
    obtain ⟨q, hq, hcq⟩ := Sep.rowGet 0 (by omega) lgV_length rfl h2 hg
    have c2 := hcq 2 _ rfl
    refine ⟨by omega, hlt, q, hq, L[k].2.a, L[k].2.len, L[k].2.cap, by rw [Int.toNat_natCast]; exact c2, ?_⟩
    have hmem : L[k] ∈ L := List.getElem_mem hk1
    have hm := (hI _ hmem).keep hb2
    have hbl := hf.2 _ (List.mem_map_of_mem (f := (·.1)) hmem)
    refine (cloneI_spec hm hbl).mono ?_
    rintro _ w3 ⟨t, rfl, ho, hb3⟩
    have h3 := (h2.row ho hb3).swap
    have hlen : (flat lgV (L' ++ L.drop k)).length = (L' ++ L.drop k).length * 3 := flat_length lgV_length _
    have hlen2 : (L' ++ L.drop k).length = L.length := by rw [List.length_append, List.length_drop, hk']; omega
    have hj : k * 3 + 2 < (flat lgV (L' ++ L.drop k)).length := by rw [hlen, hlen2]; omega
    refine ⟨_, _, _, rfl, by omega, hlt, q, hq, by rw [Int.toNat_natCast, add_add]; exact h3.rowWr 0 rfl hq hj, ?_⟩
    rw [Int.toNat_natCast, add_add, inc (by omega)]
    obtain ⟨h4, hb4⟩ := h3.rowSet 0 rfl hq hj (.slice t.a t.len t.cap)
    have he : (L' ++ L.drop k).set k (⟨L[k].1.c, L[k].1.f, L[k].1.b⟩, t) = (L' ++ [(L[k].1, t)]) ++ L.drop (k + 1) := by
      rw [List.drop_eq_getElem_cons hk1]
      have := set_mid (a := L') (r := L.drop (k + 1)) (x := L[k]) (y := ((L[k].1, t) : LS))
      rw [hk'] at this
      rw [List.append_assoc]; exact this
    rw [flat_bod (t := t) (b := L[k].1.b) (show (L' ++ L.drop k)[k]? = some (L[k].1, L[k].2) from hg), he] at h4
    refine ⟨⟨rfl, rfl, k + 1, rfl, by omega, L' ++ [(L[k].1, t)], ?_, ?_, ?_⟩, by (try dsimp only); omega⟩
    · rw [List.map_append, hL', List.take_succ_eq_append_getElem hk1, List.map_append]; rfl
    · refine Sep.perm ?_ (show ((_ :: bodA (L[k].1, t) :: L'.map bodA) : List Asn).Perm _ from .cons _ ?_) (l' := lgA s1 ((L' ++ [(L[k].1, t)]) ++ L.drop (k + 1)) :: (L' ++ [(L[k].1, t)]).map bodA)
      · simp only [List.set_cons_zero] at h4
        unfold lgA
        have e : ((L' ++ [(L[k].1, t)]) ++ L.drop (k + 1)).length = (L' ++ L.drop k).length := by rw [← he, List.length_set]
        rw [e]
        exact h4
      · rw [List.map_append]; exact (List.perm_append_singleton _ _).symm
    · exact (hb2.next hb3 (Nat.le_refl _)).trans hb4
  · have : k = L.length := by omega
    subst this
    rw [List.drop_length, List.append_nil] at h2
    rw [List.take_length] at hL'
    exact ⟨s1, rfl, ⟨L', hL', h2⟩, hb2⟩

theorem twinLogs_spec {w : World} {s : Sl} {gs : List Log} (h : Logs w s gs) (hf : Fit gs) :
    CallsV Try.prog n_trystkeep_TwinLogs #[.slice s.a s.len s.cap] w fun v w' => ∃ s' : Sl, v = .slice s'.a s'.len s'.cap ∧ New w.heap.size w' s' gs ∧ Below w.heap.size w w' := by
  have hl := h.len
  have hgl := hf.1
  refine trystkeep_TwinLogs.lift ?_
  unfold trystkeep_TwinLogs.main trystkeep_TwinLogs.l1
  refine ⟨fun t w' => ∃ k : Nat, t.2 = k ∧ k ≤ gs.length ∧ New w.heap.size w' t.1 (gs.take k) ∧ Below w.heap.size w w', fun t _ => gs.length - t.2.toNat, ⟨0, rfl, Nat.zero_le _, New.nil (Nat.le_refl _), Below.refl _ _⟩, ?_⟩
  rintro ⟨out, _⟩ w1 ⟨k, rfl, hk, ⟨L, hL, h1⟩, hb⟩
  dsimp only at h1 ⊢
  unfold trystkeep_TwinLogs.b1
  refine cond_d (fun hlt => ?_) fun hge => ?_
  · obtain ⟨p, g, m, hp, hg, c0, c1, c2, hm⟩ := Logs.get h (i := (k : Int)) (by omega) hlt
    rw [Int.toNat_natCast] at hg c0 c1 c2
    have hb' : Below w.heap.size w w1.drew := hb.drew
    have hm1 := hm.keep hb'
    have hk1 : k < gs.length := (List.getElem?_eq_some_iff.1 hg).1
    have hkL : L.length = k := by have := congrArg List.length hL; simp only [List.length_map, List.length_take] at this; omega
    refine ⟨fun x => x.cell? (p.add (k * 3)) = some (.int .i64 g.c) ∧ x.cell? ((p.add (k * 3)).add 1) = some (.int .i64 g.f) ∧ x.cell? ((p.add (k * 3)).add 2) = some (.slice m.a m.len m.cap), ⟨hb'.here c0, hb'.here c1, hb'.here c2⟩, ?_⟩
    simp only [Int.toNat_natCast]
    refine ⟨by omega, hlt, p, hp, _, fun x hx => hx.1, by omega, hlt, p, hp, _, fun x hx => hx.2.1, by omega, hlt, p, hp, _, _, _, fun x hx => hx.2.2, ?_⟩
    refine (twinInts_spec hm1 (by have := hf.2 _ (List.mem_of_getElem? hg); omega)).mono ?_
    rintro _ w2 ⟨t, rfl, ho, hb2⟩
    have hb2' : Below w.heap.size w w2 := hb'.next hb2 (Nat.le_refl _)
    refine ⟨_, _, _, rfl, ⟨hb2'.here c0, hb2'.here c1, hb2'.here c2⟩, ?_⟩
    have h2 : Sep w.heap.size w2 (bodA (g, t) :: lgA out L :: L.map bodA) := Sep.row h1.drew ho hb2
    have hba := below_alloc w2 (.cells #[.int .i64 g.c, .int .i64 g.f, .slice t.a t.len t.cap] 45)
    have h3 := h2.keep hba
    obtain ⟨i, hi, hz, hsz, hby⟩ := info_log
    obtain ⟨s', w4, hr, hln, h4, hb4⟩ := h3.append (P := Try.prog) (ty := 24) (size := 3) (c := 1) (m := 1) Try.underlying24 hi hz hsz hby rfl (by omega) 1 rfl (a := newA w2) (news := lgV (g, t)) rfl (fun j u hu => by
      refine (cell_new _ _ _ _).trans ?_
      simpa [lgV] using hu) (fun u hu => by have := one_lgV (L := [(g, t)]) u; rw [flat_one] at this; exact this hu) (by unfold maxLen; omega) (by omega) (by omega)
    refine ⟨_, _, _, _, hr, ?_⟩
    rw [inc (by omega)]
    refine ⟨⟨trivial, k + 1, rfl, by omega, ⟨L ++ [(g, t)], ?_, ?_⟩, (hb2'.next hba (Nat.le_refl _)).trans hb4⟩, by (try dsimp only); omega⟩
    · rw [List.map_append, hL, List.take_succ_eq_append_getElem hk1]
      obtain ⟨_, rfl⟩ := List.getElem?_eq_some_iff.1 hg
      rfl
    · refine Sep.perm h4 ?_
      simp only [List.set_cons_succ, List.set_cons_zero]
      refine (List.Perm.swap _ _ _).trans ?_
      unfold lgA
      rw [flat_app, flat_one, List.length_append, List.map_append]
      exact .cons _ (List.perm_append_singleton _ _).symm
  · rw [List.take_of_length_le (by omega)] at hL
    exact ⟨out, rfl, ⟨L, hL, h1⟩, hb⟩

end Go.Proofs.Ytcegohgmagppbaa
