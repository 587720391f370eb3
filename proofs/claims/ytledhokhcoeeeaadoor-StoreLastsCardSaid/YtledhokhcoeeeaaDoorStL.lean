/-
  StoreLasts: what is to be saved comes in; what is more than is played; a state.
-/
import Derived.Test.YtledhokhcoeeeaaDoorStH
import Derived.Test.YtledhokhcoeeeaaDoorStLF
set_option linter.unusedVariables false
set_option linter.unusedVariables false
set_option linter.unusedSimpArgs false
namespace Go.Proofs.YtledhokhcoeeeaaDoor
open Go.Lf Go.RowKit

structure SaveI where
  b : List Int
  times : Int
  trip : Int
  keep : List Bool
  torn : Int
  again : List Int
def SaveC (w : World) (cs : List Value) (x : SaveI) : Prop := ∃ sb sk sa : Sl, cs = [.slice sb.a sb.len sb.cap, .int .i64 x.times, .int .i64 x.trip, .slice sk.a sk.len sk.cap, .int .i64 x.torn, .slice sa.a sa.len sa.cap] ∧ Ints .u8 w sb x.b ∧ Els 1 BoolC w sk x.keep ∧ Els 1 (IntC .i64) w sa x.again ∧ x.trip ≤ 9223372036854775807
theorem SaveC.stab : Stab SaveC := fun _ _ _ _ hb ⟨sb, sk, sa, hs, h1, h2, h3, h4⟩ => ⟨sb, sk, sa, hs, h1.keep hb, h2.keep BoolC.stab hb, h3.keep IntC.stab hb, h4⟩
theorem SaveC.len {w : World} {cs : List Value} {a : SaveI} (h : SaveC w cs a) : cs.length = 6 := by obtain ⟨sb, sk, sa, rfl, _⟩ := h; rfl
abbrev Saves (w : World) (s : Sl) (l : List SaveI) : Prop := Els 6 SaveC w s l

theorem wf_i64 {m : Int} (h : (Lit.int .i64 m).wf = true) : m ≤ 9223372036854775807 := by
  have h' : (decide (IntKind.i64.min ≤ m) && decide (m ≤ IntKind.i64.max)) = true := h
  simp only [Bool.and_eq_true, decide_eq_true_eq] at h'
  exact h'.2

set_option maxRecDepth 100000 in
theorem reads_save : Reads Tryd.prog 47 SaveC := by
  constructor
  intro H enc w base sp held fuel cs x h
  obtain ⟨hl, n, hf⟩ := struct_fields Tryd.underlying47 h
  have hl : cs.length = 6 := hl
  match cs, hl with
  | [c0, c1, c2, c3, c4, c5], _ =>
    simp only [List.mem_cons, List.not_mem_nil, or_false, forall_eq_or_imp, forall_eq] at hf
    obtain ⟨⟨y0, h0⟩, ⟨y1, h1⟩, ⟨y2, h2⟩, ⟨y3, h3⟩, ⟨y4, h4⟩, ⟨y5, h5⟩⟩ := hf
    obtain ⟨b, sb, e0, i0⟩ := (reads_ints Tryd.underlying30 Tryd.underlying5 (by kernel_rfl)).go (cs := [c0]) h0
    obtain ⟨m1, e1, w1⟩ := (reads_int Tryd.underlying3).go (cs := [c1]) h1
    obtain ⟨m2, e2, w2⟩ := (reads_int Tryd.underlying3).go (cs := [c2]) h2
    obtain ⟨ks, sk, e3, i3⟩ := (reads_slice Tryd.underlying44 (n := 1) (by kernel_rfl) (by omega) (reads_bool Tryd.underlying4) fun _ _ _ h => by rw [show _ = _ from h]; rfl).go (cs := [c3]) h3
    obtain ⟨m4, e4, w4⟩ := (reads_int Tryd.underlying3).go (cs := [c4]) h4
    obtain ⟨ag, sa, e5, i5⟩ := (reads_slice Tryd.underlying45 (n := 1) (by kernel_rfl) (by omega) (reads_int Tryd.underlying3) fun _ _ _ h => by rw [show _ = _ from h.1]; rfl).go (cs := [c5]) h5
    simp only [List.cons.injEq, and_true] at e0 e1 e2 e3 e4 e5
    subst e0 e1 e2 e3 e4 e5
    exact ⟨⟨b, m1, m2, ks, m4, ag⟩, sb, sk, sa, rfl, i0, i3, i5, wf_i64 w2⟩

set_option maxRecDepth 100000 in
theorem saves_in {H : Type} {enc : TypeId × Value → H} {w : World} {base b0 : Nat} {r : Reach} {sp : Nat → Bool} {held : Bool} {v : Value} {d : DataW H} {ps : List MemPlace} (hv : Value.okWide Tryd.prog w r b0 41 v)
    (h : DataW.Trod enc Tryd.prog w base sp held 41 v d ps) : ∃ (s : Sl) (l : List SaveI), v = .slice s.a s.len s.cap ∧ Saves w s l := by
  obtain ⟨a, len, cap, rfl⟩ := WideShapes.okWide_slice Tryd.underlying41 hv
  obtain ⟨l, s, e, hg⟩ := (reads_slice Tryd.underlying41 (n := 6) (by kernel_rfl) (by omega) reads_save fun _ _ _ h => h.len).open h
  have e : [Value.slice a len cap] = [.slice s.a s.len s.cap] := e
  exact ⟨s, l, by simpa using e, hg⟩

/-- what one save is, in memory -/
structure SaveAt (W : World) (q : Addr) (x : SaveI) (sb sk sa : Sl) : Prop where
  c0 : W.cell? q = some (.slice sb.a sb.len sb.cap)
  c1 : W.cell? (q.add 1) = some (.int .i64 x.times)
  c2 : W.cell? (q.add 2) = some (.int .i64 x.trip)
  c3 : W.cell? (q.add 3) = some (.slice sk.a sk.len sk.cap)
  c4 : W.cell? (q.add 4) = some (.int .i64 x.torn)
  c5 : W.cell? (q.add 5) = some (.slice sa.a sa.len sa.cap)
  b : Ints .u8 W sb x.b
  k : Els 1 BoolC W sk x.keep
  a : Els 1 (IntC .i64) W sa x.again
  t : x.trip ≤ 9223372036854775807
theorem Saves.get {W : World} {s : Sl} {l : List SaveI} (h : Saves W s l) {i : Nat} (hi : i < l.length) : ∃ (q : Addr) (sb sk sa : Sl), s.a = some q ∧ SaveAt W (q.add (i * 6)) l[i] sb sk sa := by
  obtain ⟨p, cs, hp, _, hc, sb, sk, sa, rfl, hb, hk, ha, ht⟩ := h.el i _ (List.getElem?_eq_getElem hi)
  refine ⟨p, sb, sk, sa, hp, ?_, ?_, ?_, ?_, ?_, ?_, hb, hk, ha, ht⟩
  · have := hc 0 _ rfl; rwa [Nat.add_zero] at this
  all_goals rw [add_add]
  · exact hc 1 _ rfl
  · exact hc 2 _ rfl
  · exact hc 3 _ rfl
  · exact hc 4 _ rfl
  · exact hc 5 _ rfl

section
variable {W w w' : World} {L R : List Asn}

def light (x : SaveI) : Prop := x.b.length ≤ 300 ∧ x.keep.length ≤ 600 ∧ x.again.length ≤ 5

set_option maxRecDepth 100000 in
theorem heavy_spec {s : Sl} {l : List SaveI} (h : Saves w s l) : CallsV Tryd.prog n_trystlaw14_heavy #[.slice s.a s.len s.cap] w fun v w' => w' = w ∧ ∃ b : Bool, v = .bool b ∧ (b = false → l.length ≤ 100 ∧ ∀ (i : Nat) (hi : i < l.length), i < 25 → light l[i]) := by
  refine trystlaw14_heavy.lift ?_
  have hl := h.len
  unfold trystlaw14_heavy.main
  refine cond_d (fun _ => ⟨rfl, true, rfl, fun hh => by cases hh⟩) fun h100 => ?_
  unfold trystlaw14_heavy.l1
  refine ⟨fun t w' => w' = w ∧ ∃ i : Nat, t = i ∧ i ≤ 25 ∧ ∀ (j : Nat) (hj : j < l.length), j < i → light l[j], fun t _ => 25 - t.toNat, ⟨rfl, 0, rfl, by omega, fun j hj hh => by omega⟩, ?_⟩
  rintro _ w1 ⟨hw, i, rfl, hi, hall⟩
  subst hw
  unfold trystlaw14_heavy.b1
  refine cond_d (fun hlt => cond_d (fun hlt25 => ?_) fun hge => ⟨rfl, false, rfl, fun _ => ⟨by omega, fun j hj h25 => hall j hj (by omega)⟩⟩) fun hge => ⟨rfl, false, rfl, fun _ => ⟨by omega, fun j hj h25 => hall j hj (by omega)⟩⟩
  have hil : i < l.length := by omega
  obtain ⟨q, sb, sk, sa, hq, hS⟩ := h.get hil
  have bl := hS.b.len
  have kl := hS.k.len
  have al := hS.a.len
  unfold trystlaw14_heavy.c2
  refine ⟨by omega, hlt, q, hq, _, _, _, by rw [Int.toNat_natCast]; exact hS.c0, cond_d (fun _ => ⟨rfl, true, rfl, fun hh => by cases hh⟩) fun hb => ?_⟩
  refine ⟨by omega, hlt, q, hq, _, _, _, by rw [Int.toNat_natCast]; exact hS.c3, cond_d (fun _ => ⟨rfl, true, rfl, fun hh => by cases hh⟩) fun hk => ?_⟩
  refine ⟨by omega, hlt, q, hq, _, _, _, by rw [Int.toNat_natCast]; exact hS.c5, cond_d (fun _ => ⟨rfl, true, rfl, fun hh => by cases hh⟩) fun ha => ?_⟩
  dsimp only
  rw [inc (by omega)]
  refine ⟨⟨rfl, rfl, i + 1, rfl, by omega, fun j hj hji => ?_⟩, by (try dsimp only); omega⟩
  by_cases hlt2 : j < i
  · exact hall j hj hlt2
  · obtain rfl : j = i := by omega
    exact ⟨by omega, by omega, by omega⟩

theorem append_zero {d s : Sl} (h0 : s.len = 0) (hc : d.len ≤ d.cap) (hn : d.a = none → d.len = 0 ∧ d.cap = 0) : (builtin .append #[30, 30] 30 #[] #[.slice d.a d.len d.cap, .slice s.a s.len s.cap]).run Tryd.prog w = .ok (.value (.slice d.a d.len d.cap)) w := by
  obtain ⟨i, hi, hz, hsz, hby⟩ := t5
  cases hda : d.a with
  | none =>
    obtain ⟨n1, n2⟩ := hn hda
    cases hsa : s.a with
    | none => simp [builtin, Builtin.append_, run_underlying Tryd.underlying30, run_sizeOf' hi, hsz, Builtin.lenOf, Builtin.firstCells, h0, n1, n2]
    | some q => simp [builtin, Builtin.append_, run_underlying Tryd.underlying30, run_sizeOf' hi, hsz, Builtin.lenOf, Builtin.firstCells, h0, n1, n2, loadCells, loadCellsFrom]
  | some a =>
    cases hsa : s.a with
    | none => simp [builtin, Builtin.append_, run_underlying Tryd.underlying30, run_sizeOf' hi, hsz, Builtin.lenOf, Builtin.firstCells, h0, hc, storeCells]
    | some q => simp [builtin, Builtin.append_, run_underlying Tryd.underlying30, run_sizeOf' hi, hsz, Builtin.lenOf, Builtin.firstCells, h0, hc, storeCells, loadCells, loadCellsFrom]

theorem At.bnone (h : At W w L) (k : Nat) {s : Sl} {xs : List Int} (hk : L[k]? = some (byA s xs)) (hn : s.a = none) : s.len = 0 ∧ s.cap = 0 := by
  obtain ⟨F, hA, _⟩ := h.s.get k hk
  rcases hA.1.2 with ⟨h1, _⟩ | ⟨g, cap, cur, h1, _⟩
  · simp only [Value.slice.injEq] at h1
    omega
  · simp only [Value.slice.injEq] at h1
    rw [hn] at h1
    cases h1.1

set_option maxRecDepth 100000 in
/-- what is to be saved -/
theorem state14_at (h : At W w R) {x : SaveI} {sb sk sa : Sl} (hb : Ints .u8 W sb x.b) (hb300 : x.b.length ≤ 300) :
    CallsV Tryd.prog n_trystlaw14_state #[.agg #[.slice sb.a sb.len sb.cap, .int .i64 x.times, .int .i64 x.trip, .slice sk.a sk.len sk.cap, .int .i64 x.torn, .slice sa.a sa.len sa.cap]] w fun v w' => ∃ (s : Sl) (xs : List Int), v = .slice s.a s.len s.cap ∧ xs.length ≤ 8000 ∧ At W w' (byA s xs :: R) := by
  refine trystlaw14_state.lift ?_
  unfold trystlaw14_state.main
  intro w2
  have h2 : At W w2 (byA ⟨none, 0, 0⟩ [] :: boxA (newA w) [.slice sb.a sb.len sb.cap, .int .i64 x.times, .int .i64 x.trip, .slice sk.a sk.len sk.cap, .int .i64 x.torn, .slice sa.a sa.len sa.cap] :: R) := (h.box [.slice sb.a sb.len sb.cap, .int .i64 x.times, .int .i64 x.trip, .slice sk.a sk.len sk.cap, .int .i64 x.torn, .slice sa.a sa.len sa.cap] 47).noBytes
  clear_value w2
  generalize newA w = m at h2 ⊢
  refine ⟨_, h2.cell 1 rfl 1 rfl, by omega, ?_⟩
  have hk0 : 0 ≤ Int.tmod (IntKind.u64.wrap x.times) 30 ∧ Int.tmod (IntKind.u64.wrap x.times) 30 < 30 := by
    have hx : 0 ≤ IntKind.u64.wrap x.times := by rw [IntKind.wrap_u64]; omega
    rw [tmod_nn hx]
    exact ⟨Int.emod_nonneg _ (by omega), Int.emod_lt_of_pos _ (by omega)⟩
  have e30 : IntKind.i64.wrap (Int.tmod (IntKind.u64.wrap x.times) 30) = Int.tmod (IntKind.u64.wrap x.times) 30 := w64 (by omega)
  show trystlaw14_state.l1 _ _ _ (IntKind.i64.wrap (Int.tmod (IntKind.u64.wrap x.times) 30)) w2
  rw [e30]
  generalize Int.tmod (IntKind.u64.wrap x.times) 30 = k0 at hk0
  have hbl := hb.len
  have hbs := hb.small
  unfold trystlaw14_state.l1
  refine ⟨fun t w' => ∃ xs : List Int, -1 ≤ t.2 ∧ t.2 < 30 ∧ xs.length ≤ 8000 ∧ At W w' (byA t.1 xs :: boxA m [.slice sb.a sb.len sb.cap, .int .i64 x.times, .int .i64 x.trip, .slice sk.a sk.len sk.cap, .int .i64 x.torn, .slice sa.a sa.len sa.cap] :: R), fun t _ => (t.2 + 1).toNat, ⟨[], by (try dsimp only); omega, by (try dsimp only); omega, by simp, h2⟩, ?_⟩
  clear h2 h
  rintro ⟨out, k⟩ w1 ⟨xs, hk1, hk2, hxs, h1⟩
  show trystlaw14_state.b1 _ _ m out k w1
  have hk1 : -1 ≤ k := hk1
  have hk2 : k < 30 := hk2
  have h1 : At W w1 (byA out xs :: boxA m [.slice sb.a sb.len sb.cap, .int .i64 x.times, .int .i64 x.trip, .slice sk.a sk.len sk.cap, .int .i64 x.torn, .slice sa.a sa.len sa.cap] :: R) := h1
  have hol := h1.len 0 rfl
  unfold trystlaw14_state.b1
  refine cond_d (fun hge => ?_) fun hlt => ⟨out, xs, rfl, hxs, h1.less 1 rfl⟩
  refine ⟨_, _, _, h1.cell0 1 rfl, cond_d (fun hle => ?_) fun hgt => ⟨out, xs, rfl, hxs, h1.less 1 rfl⟩⟩
  have hsum : xs.length + x.b.length ≤ 8000 := by
    rw [w64 (by omega)] at hle
    omega
  unfold trystlaw14_state.c2
  have ek : IntKind.i64.wrap (k - 1) = k - 1 := w64 (by omega)
  by_cases hx0 : x.b = []
  · have h0 : sb.len = 0 := by rw [hbl, hx0]; rfl
    refine ⟨_, _, _, h1.cell0 1 rfl, out.a, out.len, out.cap, w1, append_zero h0 (h1.bcap 0 rfl) (h1.bnone 0 rfl), ?_⟩
    dsimp only
    rw [ek]
    exact ⟨⟨rfl, xs, by (try dsimp only); omega, by (try dsimp only); omega, hxs, h1⟩, by (try dsimp only); omega⟩
  · obtain ⟨s', w', run, h3⟩ := h1.more 0 rfl (h1.ints hb) hx0 (by omega)
    refine ⟨_, _, _, h1.cell0 1 rfl, s'.a, s'.len, s'.cap, w', run, ?_⟩
    dsimp only
    rw [ek]
    exact ⟨⟨rfl, xs ++ x.b, by (try dsimp only); omega, by (try dsimp only); omega, by rw [List.length_append]; exact hsum, h3⟩, by (try dsimp only); omega⟩
end

end Go.Proofs.YtledhokhcoeeeaaDoor
