/-
  DiskSafe: how what is done comes in; its contract.
-/
import Derived.Test.YtnnpkjhpeefnbaaDiG
import Derived.Test.YtnnpkjhpeefnbaaDiIn
set_option linter.unusedVariables false
set_option linter.unusedSimpArgs false
namespace Go.Proofs.Ytnnpkjhpeefnbaa
open Go.Lf Go.RowKit

structure Act where
  what : Int
  i : Int
  b : List Int
  raw : Bool
  keep : List Bool
  torn : Int

def ActC (w : World) (cs : List Value) (a : Act) : Prop := ∃ sb sk : Sl, cs = [.int .i64 a.what, .int .i64 a.i, .slice sb.a sb.len sb.cap, .bool a.raw, .slice sk.a sk.len sk.cap, .int .i64 a.torn] ∧ Ints .u8 w sb a.b ∧ Els 1 BoolC w sk a.keep ∧ (a.i ≤ 9223372036854775807)
theorem ActC.stab : Stab ActC := fun _ _ _ _ hb ⟨sb, sk, hs, h1, h2, h3⟩ => ⟨sb, sk, hs, h1.keep hb, h2.keep BoolC.stab hb, h3⟩
theorem ActC.len {w : World} {cs : List Value} {a : Act} (h : ActC w cs a) : cs.length = 6 := by obtain ⟨sb, sk, rfl, _⟩ := h; rfl
abbrev Acts (w : World) (s : Sl) (l : List Act) : Prop := Els 6 ActC w s l

theorem Acts.get {w : World} {s : Sl} {l : List Act} (h : Acts w s l) {i : Int} (h0 : 0 ≤ i) (h1 : i < s.len) :
    ∃ p a sb sk, s.a = some p ∧ l[i.toNat]? = some a ∧ w.cell? (p.add (i.toNat * 6)) = some (.int .i64 a.what) ∧ w.cell? ((p.add (i.toNat * 6)).add 1) = some (.int .i64 a.i) ∧
      w.cell? ((p.add (i.toNat * 6)).add 2) = some (.slice sb.a sb.len sb.cap) ∧ w.cell? ((p.add (i.toNat * 6)).add 3) = some (.bool a.raw) ∧ w.cell? ((p.add (i.toNat * 6)).add 4) = some (.slice sk.a sk.len sk.cap) ∧ w.cell? ((p.add (i.toNat * 6)).add 5) = some (.int .i64 a.torn) ∧
      Ints .u8 w sb a.b ∧ Els 1 BoolC w sk a.keep ∧ a.i ≤ 9223372036854775807 := by
  obtain ⟨p, a, cs, hp, _, hg, hc, sb, sk, rfl, hb, hk, hi⟩ := Els.get h h0 h1
  exact ⟨p, a, sb, sk, hp, hg, by have := hc 0 _ rfl; rwa [add_zero] at this, hc 1 _ rfl, hc 2 _ rfl, hc 3 _ rfl, hc 4 _ rfl, hc 5 _ rfl, hb, hk, hi⟩

theorem reads_act : Reads Try.prog 63 ActC := by
  constructor
  intro H enc w base sp held fuel cs x h
  obtain ⟨hl, n, hf⟩ := struct_fields Try.underlying63 h
  have hl : cs.length = 6 := hl
  match cs, hl with
  | [c0, c1, c2, c3, c4, c5], _ =>
    simp only [List.mem_cons, List.not_mem_nil, or_false, forall_eq_or_imp, forall_eq] at hf
    obtain ⟨⟨y0, h0⟩, ⟨y1, h1⟩, ⟨y2, h2⟩, ⟨y3, h3⟩, ⟨y4, h4⟩, ⟨y5, h5⟩⟩ := hf
    obtain ⟨m0, e0, _⟩ := (reads_int Try.underlying3).go (cs := [c0]) h0
    obtain ⟨m1, e1, w1⟩ := (reads_int Try.underlying3).go (cs := [c1]) h1
    obtain ⟨m2, s2, e2, hI⟩ := (reads_ints Try.underlying52 Try.underlying5 (by kernel_rfl)).go (cs := [c2]) h2
    obtain ⟨m3, e3⟩ := (reads_bool Try.underlying4).go (cs := [c3]) h3
    obtain ⟨m4, s4, e4, hB⟩ := (reads_slice Try.underlying46 (n := 1) (by kernel_rfl) (by omega) (reads_bool Try.underlying4) fun _ _ _ h => by rw [show _ = _ from h]; rfl).go (cs := [c4]) h4
    obtain ⟨m5, e5, _⟩ := (reads_int Try.underlying3).go (cs := [c5]) h5
    have e3 : [c3] = [Value.bool m3] := e3
    simp only [List.cons.injEq, and_true] at e0 e1 e2 e3 e4 e5
    subst e0 e1 e2 e3 e4 e5
    exact ⟨⟨m0, m1, m2, m3, m4, m5⟩, s2, s4, rfl, hI, hB, wf_le w1⟩

theorem acts_in {H : Type} {enc : TypeId × Value → H} {w : World} {base b0 : Nat} {r : Reach} {sp : Nat → Bool} {held : Bool} {v : Value} {d : DataW H} {ps : List MemPlace} (hv : Value.okWide Try.prog w r b0 59 v)
    (h : DataW.Trod enc Try.prog w base sp held 59 v d ps) : ∃ (s : Sl) (l : List Act), v = .slice s.a s.len s.cap ∧ Acts w s l := by
  obtain ⟨a, len, cap, rfl⟩ := WideShapes.okWide_slice Try.underlying59 hv
  obtain ⟨l, s, e, hg⟩ := (reads_slice Try.underlying59 (n := 6) (by kernel_rfl) (by omega) reads_act fun _ _ _ h => h.len).open h
  have e : [Value.slice a len cap] = [.slice s.a s.len s.cap] := e
  exact ⟨s, l, by simpa using e, hg⟩

theorem rows_in {H : Type} {enc : TypeId × Value → H} {w : World} {base b0 : Nat} {r : Reach} {sp : Nat → Bool} {held : Bool} {v : Value} {d : DataW H} {ps : List MemPlace} (hv : Value.okWide Try.prog w r b0 58 v)
    (h : DataW.Trod enc Try.prog w base sp held 58 v d ps) : ∃ (s : Sl) (l : List (List Int)), v = .slice s.a s.len s.cap ∧ Els 1 (IntsC .u8) w s l := by
  obtain ⟨a, len, cap, rfl⟩ := WideShapes.okWide_slice Try.underlying58 hv
  obtain ⟨l, s, e, hg⟩ := (reads_slice Try.underlying58 (n := 1) (by kernel_rfl) (by omega) (reads_ints Try.underlying52 Try.underlying5 (by kernel_rfl)) fun _ _ _ h => by obtain ⟨m, rfl, _⟩ := h; rfl).open h
  have e : [Value.slice a len cap] = [.slice s.a s.len s.cap] := e
  exact ⟨s, l, by simpa using e, hg⟩

/-- not more than is played -/
def light (l : List Act) : Prop := l.length ≤ 400 ∧ ∀ (i : Nat) (a : Act), i < 100 → l[i]? = some a → a.b.length ≤ 200 ∧ a.keep.length ≤ 200

theorem heavy_spec {w : World} {s : Sl} {l : List Act} (h : Acts w s l) : CallsV Try.prog n_trystlaw13_heavy #[.slice s.a s.len s.cap] w fun v w' => (∃ b : Bool, v = .bool b ∧ (b = false → light l)) ∧ w = w' := by
  refine trystlaw13_heavy.lift ?_
  unfold trystlaw13_heavy.main
  have hl := h.len
  refine cond_d (fun _ => ⟨⟨true, rfl, fun h => by cases h⟩, rfl⟩) fun h4 => ?_
  unfold trystlaw13_heavy.l1
  refine ⟨fun t w' => (∃ k : Nat, t = k ∧ k ≤ l.length ∧ k ≤ 100 ∧ ∀ (i : Nat) (a : Act), i < k → l[i]? = some a → a.b.length ≤ 200 ∧ a.keep.length ≤ 200) ∧ w = w', fun t _ => l.length - t.toNat, ⟨⟨0, rfl, Nat.zero_le _, by omega, fun i a hi => by omega⟩, rfl⟩, ?_⟩
  rintro _ w' ⟨⟨k, rfl, hk, hk2, hall⟩, rfl⟩
  unfold trystlaw13_heavy.b1
  have stop : (k = l.length ∨ k = 100) → (∃ b : Bool, (Value.bool false) = .bool b ∧ (b = false → light l)) := by
    intro hh
    refine ⟨false, rfl, fun _ => ⟨by omega, fun i a hi ha => ?_⟩⟩
    have := (List.getElem?_eq_some_iff.1 ha).1
    exact hall i a (by omega) ha
  refine cond_d (fun hlt => cond_d (fun h100 => ?_) fun h100 => ⟨stop (.inr (by omega)), rfl⟩) fun hge => ⟨stop (.inl (by omega)), rfl⟩
  unfold trystlaw13_heavy.c2
  obtain ⟨p, a, sb, sk, hp, ha, _, _, c2, _, c4, _, hI, hB, _⟩ := Acts.get h (i := (k : Int)) (by omega) hlt
  have hbl := hI.len
  have hkl := hB.len
  rw [Int.toNat_natCast] at ha
  refine ⟨by omega, hlt, p, hp, _, _, _, c2, cond_d (fun _ => ⟨⟨true, rfl, fun h => by cases h⟩, rfl⟩) fun hb2 => ⟨by omega, hlt, p, hp, _, _, _, c4, cond_d (fun _ => ⟨⟨true, rfl, fun h => by cases h⟩, rfl⟩) fun hk3 => ?_⟩⟩
  rw [inc (by omega)]
  refine ⟨⟨rfl, ⟨k + 1, rfl, by omega, by omega, fun i a' hi ha' => ?_⟩, rfl⟩, by (try dsimp only); omega⟩
  by_cases hik : i = k
  · subst hik
    rw [ha] at ha'
    obtain rfl := Option.some.inj ha'
    omega
  · exact hall i a' (by omega) ha'

/-! what is safe stays -/

structure Held (rows : List (List Int)) (st : DS) : Prop where
  len : st.safe.length = 20
  at' : ∀ (i : Nat) (x : List Int), rows[i]? = some x → st.safe[i]? = some (some (padI x))
  far : ∀ p ∈ st.pend, 10 ≤ p.1

theorem crashSafe_far (keep : List Bool) (torn : Int) {j : Nat} (hj : j < 10) : ∀ (p : List (Nat × List Int)) (k : Nat) (s : List (Option (List Int))), (∀ y ∈ p, 10 ≤ y.1) → (crashSafe keep torn k p s)[j]? = s[j]?
  | [], _, _, _ => rfl
  | x :: r, k, s, h => by
    have hx := h x List.mem_cons_self
    unfold crashSafe
    rw [crashSafe_far keep torn hj r (k + 1) _ fun y hy => h y (List.mem_cons_of_mem _ hy)]
    split
    · rw [List.getElem?_set_ne (by omega)]
    · split
      · rw [List.getElem?_set_ne (by omega)]
      · rfl
theorem nowOf_far {j : Nat} (hj : j < 10) : ∀ (p : List (Nat × List Int)) (s : List (Option (List Int))), (∀ y ∈ p, 10 ≤ y.1) → (nowOf s p)[j]? = s[j]?
  | [], _, _ => rfl
  | x :: r, s, h => by
    have hx := h x List.mem_cons_self
    show (nowOf (s.set x.1 (some x.2)) r)[j]? = _
    rw [nowOf_far hj r _ fun y hy => h y (List.mem_cons_of_mem _ hy), List.getElem?_set_ne (by omega)]

theorem lt_of_get {rows : List (List Int)} (hr : rows.length ≤ 10) {i : Nat} {x : List Int} (h : rows[i]? = some x) : i < 10 := by
  have := (List.getElem?_eq_some_iff.1 h).1; omega

theorem Held.crash {rows : List (List Int)} (hr : rows.length ≤ 10) {st : DS} (h : Held rows st) (keep : List Bool) (torn : Int) : Held rows (crashD st keep torn) := by
  unfold crashD
  split
  · exact h
  · exact ⟨by rw [crashSafe_length]; exact h.len, fun i x hx => by rw [crashSafe_far keep torn (lt_of_get hr hx) _ _ _ h.far]; exact h.at' i x hx, fun p hp => by cases hp⟩
theorem Held.start {rows : List (List Int)} {st : DS} (h : Held rows st) : Held rows (startD st) := ⟨h.len, h.at', h.far⟩
theorem Held.trip {rows : List (List Int)} {st : DS} (h : Held rows st) (n : Int) (keep : List Bool) (torn : Int) : Held rows (tripD st n keep torn) := ⟨h.len, h.at', h.far⟩
theorem Held.trips {rows : List (List Int)} (hr : rows.length ≤ 10) {st : DS} (h : Held rows st) (ho : st.off = false) : Held rows (tripsD st).2 := by
  rw [tripsD_eq ho]
  split
  · exact ⟨by rw [crashSafe_length]; exact h.len, fun i x hx => by rw [crashSafe_far _ _ (lt_of_get hr hx) _ _ _ h.far]; exact h.at' i x hx, fun p hp => by cases hp⟩
  · exact ⟨h.len, h.at', h.far⟩
theorem Held.sync {rows : List (List Int)} (hr : rows.length ≤ 10) {st : DS} (h : Held rows st) : Held rows (syncD st).2 := by
  unfold syncD
  split
  · exact h
  · rename_i h0
    have ht := h.trips hr (by simpa using h0)
    split
    · exact ht
    · exact ⟨by rw [nowOf_length]; exact ht.len, fun i x hx => by rw [nowOf_far (lt_of_get hr hx) _ _ ht.far]; exact ht.at' i x hx, fun p hp => by cases hp⟩
theorem Held.write {rows : List (List Int)} (hr : rows.length ≤ 10) {st : DS} (h : Held rows st) {i : Int} (hi : 10 ≤ i) (b : List Int) : Held rows (writeD st i b).2 := by
  unfold writeD
  split
  · exact h
  · rename_i h0
    split
    · exact h
    · have ho := (wrongD_off (Decidable.not_not.1 h0)).1
      refine Held.trips hr (st := addD st i.toNat b) ⟨h.len, h.at', fun p hp => ?_⟩ ho
      rcases List.mem_append.1 hp with hp | hp
      · exact h.far p hp
      · simp at hp; subst hp; simp only; omega
theorem Held.read {rows : List (List Int)} (hr : rows.length ≤ 10) {st : DS} (h : Held rows st) (ho : st.off = false) {i : Nat} {x : List Int} (hx : rows[i]? = some x) : readD st (i : Int) = (padI x, 0) := by
  have hi := lt_of_get hr hx
  have h0 : wrongD st (i : Int) = 0 := by rw [wrongD, if_neg (by rw [ho]; simp), if_neg (by rw [h.len]; omega)]
  rw [readD, if_neg (by simp [h0]), Int.toNat_natCast, nowOf_far hi _ _ h.far, h.at' i x hx]; rfl

end Go.Proofs.Ytnnpkjhpeefnbaa
