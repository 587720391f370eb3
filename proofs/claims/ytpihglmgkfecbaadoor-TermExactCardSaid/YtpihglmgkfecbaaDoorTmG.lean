/-
  Terms: what the statements begin with: the steps that come in, what is built of them, the wake: contracts.
-/
import Derived.Test.YtpihglmgkfecbaaDoorTmF
set_option linter.unusedVariables false
set_option linter.unusedSimpArgs false
namespace Go.Proofs.YtpihglmgkfecbaaDoor
open Go.Lf Go.RowKit

theorem wf_le {n : Int} (h : (Lit.int .i64 n).wf = true) : n ≤ 9223372036854775807 := by
  unfold Lit.wf at h
  simp only [Bool.and_eq_true, decide_eq_true_eq] at h
  have e : IntKind.i64.max = 9223372036854775807 := by decide
  omega

theorem rowInts {B : Nat} {w : World} {l : List Asn} (k : Nat) {e : TypeId} {s : Sl} {kd : IntKind} {xs : List Int} (hk : l[k]? = some (rowA e 1 s xs.length (xs.map (Value.int kd)))) (h : Sep B w l) (hx : xs.length ≤ 9223372036854775807) : Ints kd w s xs := by
  have hl := (h.rowLen k hk).1
  refine ⟨hl, by omega, fun i x hi => ?_⟩
  obtain ⟨q, hq, hc⟩ := h.rowCell k hk (j := i) (by rw [List.length_map]; exact (List.getElem?_eq_some_iff.1 hi).1)
  have hv := hc i (.int kd x) (by rw [List.getElem?_map, hi]; rfl)
  refine ⟨q, hq, ?_, hv⟩
  have := World.block_lt_of_cell? _ _ hv
  rwa [add_block] at this

structure Stp where
  kind : Int
  n : Int
  args : List Int
  raw : Bool

def StpC (w : World) (cs : List Value) (x : Stp) : Prop := ∃ s : Sl, cs = [.int .i64 x.kind, .int .i64 x.n, .slice s.a s.len s.cap, .bool x.raw] ∧ Ints .i64 w s x.args ∧ x.n ≤ 9223372036854775807
theorem StpC.stab : Stab StpC := fun _ _ _ _ hb ⟨s, hs, h, h2⟩ => ⟨s, hs, h.keep hb, h2⟩
theorem StpC.len {w : World} {cs : List Value} {a : Stp} (h : StpC w cs a) : cs.length = 4 := by obtain ⟨s, rfl, _⟩ := h; rfl
abbrev Stps (w : World) (s : Sl) (l : List Stp) : Prop := Els 4 StpC w s l

theorem Stps.get {w : World} {s : Sl} {l : List Stp} (h : Stps w s l) {i : Int} (h0 : 0 ≤ i) (h1 : i < s.len) :
    ∃ p x sx, s.a = some p ∧ l[i.toNat]? = some x ∧ w.cell? (p.add (i.toNat * 4)) = some (.int .i64 x.kind) ∧ w.cell? ((p.add (i.toNat * 4)).add 1) = some (.int .i64 x.n) ∧
      w.cell? ((p.add (i.toNat * 4)).add 2) = some (.slice sx.a sx.len sx.cap) ∧ w.cell? ((p.add (i.toNat * 4)).add 3) = some (.bool x.raw) ∧ Ints .i64 w sx x.args ∧ x.n ≤ 9223372036854775807 := by
  obtain ⟨p, x, cs, hp, _, hg, hc, sx, rfl, hb, hn⟩ := Els.get h h0 h1
  exact ⟨p, x, sx, hp, hg, by have := hc 0 _ rfl; rwa [add_zero] at this, hc 1 _ rfl, hc 2 _ rfl, hc 3 _ rfl, hb, hn⟩

/-! what is light -/

def heavyL (l : List Stp) : Bool := decide (600 < l.length) || (l.take 150).any fun x => decide (420 < x.args.length)

set_option maxRecDepth 100000 in
theorem heavy_spec {w : World} {s : Sl} {l : List Stp} (h : Stps w s l) : CallsV Tryd.prog n_trystlaw10_Heavy #[.slice s.a s.len s.cap] w fun v w' => v = .bool (heavyL l) ∧ w = w' := by
  refine trystlaw10_Heavy.lift ?_
  have hl := h.len
  unfold trystlaw10_Heavy.main
  refine cond_d (fun hb => ⟨by unfold heavyL; rw [decide_eq_true (by omega)]; rfl, rfl⟩) fun hb => ?_
  have hh : heavyL l = (l.take 150).any fun x => decide (420 < x.args.length) := by unfold heavyL; rw [decide_eq_false (by omega)]; rfl
  unfold trystlaw10_Heavy.l1
  refine ⟨fun t w' => w = w' ∧ ∃ k : Nat, t = k ∧ k ≤ l.length ∧ k ≤ 150 ∧ ((l.take k).any fun x => decide (420 < x.args.length)) = false, fun t _ => l.length - t.toNat, ⟨rfl, 0, rfl, Nat.zero_le _, by omega, by simp⟩, ?_⟩
  rintro _ w1 ⟨rfl, k, rfl, hk, hk2, hall⟩
  have fin : (l.length ≤ k ∨ 150 ≤ k) → (Value.bool false = .bool (heavyL l) ∧ w = w) := by
    intro hc
    refine ⟨?_, rfl⟩
    rw [hh]
    congr 1
    rw [← hall]
    rcases hc with hc | hc
    · rw [List.take_of_length_le (by omega), List.take_of_length_le (by omega)]
    · have e : k = 150 := Nat.le_antisymm hk2 hc
      rw [e]
  unfold trystlaw10_Heavy.b1
  refine cond_d (fun hlt => ?_) fun hge => fin (.inl (by omega))
  refine cond_d (p := ((k : Nat) : Int) < 150) (fun h150 => ?_) fun h150 => ?_
  rotate_left
  · exact fin (.inr (by omega))
  unfold trystlaw10_Heavy.c2
  obtain ⟨p, x, sx, hp, hx, c0, c1, c2, c3, hI, hn⟩ := h.get (i := (k : Int)) (by omega) hlt
  rw [Int.toNat_natCast] at hx
  have hxl := hI.len
  have htk : ((l.take (k + 1)).any fun x => decide (420 < x.args.length)) = (((l.take k).any fun x => decide (420 < x.args.length)) || decide (420 < x.args.length)) := by
    obtain ⟨hlt2, he⟩ := List.getElem?_eq_some_iff.1 hx
    rw [List.take_succ_eq_append_getElem hlt2, he]; simp
  refine ⟨by omega, hlt, p, hp, _, _, _, c2, cond_d (fun hg => ?_) fun hg => ?_⟩
  · refine ⟨?_, rfl⟩
    rw [hh]
    congr 1
    symm
    rw [List.any_eq_true]
    refine ⟨x, ?_, decide_eq_true (by omega)⟩
    exact List.mem_of_getElem? (i := k) (by rw [List.getElem?_take, if_pos (by omega)]; exact hx)
  · rw [inc (by omega)]
    refine ⟨⟨rfl, rfl, k + 1, rfl, by omega, by omega, ?_⟩, by (try dsimp only); omega⟩
    rw [htk, hall, decide_eq_false (by omega)]; rfl

theorem light {l : List Stp} (h : heavyL l = false) : l.length ≤ 600 ∧ ∀ (k : Nat) (x : Stp), k < 150 → l[k]? = some x → x.args.length ≤ 420 := by
  unfold heavyL at h
  rw [Bool.or_eq_false_iff] at h
  refine ⟨by have := of_decide_eq_false h.1; omega, fun k x hk hx => ?_⟩
  have := (List.any_eq_false.1 h.2) x (List.mem_of_getElem? (i := k) (by rw [List.getElem?_take, if_pos hk]; exact hx))
  simp at this
  omega

/-! some that are there -/

def someI (xs : List Int) (n : Int) : List Int := xs.map fun x => if 0 < n ∧ 0 ≤ x then x % n else x

theorem some_spec {w : World} {s : Sl} {xs : List Int} (h : Ints .i64 w s xs) (hx : xs.length ≤ 1000000) (n : Int) :
    CallsV Tryd.prog n_trystlaw10_Some #[.slice s.a s.len s.cap, .int .i64 n] w fun v w' => ∃ s' : Sl, v = .slice s'.a s'.len s'.cap ∧ OwnI w.heap.size 3 .i64 w' s' (someI xs n) ∧ Below w.heap.size w w' := by
  refine trystlaw10_Some.lift ?_
  have hl := h.len
  have hsl : (someI xs n).length = xs.length := by simp [someI]
  obtain ⟨i, hi, hz, hsz, hby⟩ := t3
  unfold trystlaw10_Some.main trystlaw10_Some.l1
  refine ⟨fun st w' => ∃ k : Nat, st.2 = k ∧ k ≤ xs.length ∧ OwnI w.heap.size 3 .i64 w' st.1 ((someI xs n).take k) ∧ Below w.heap.size w w', fun st _ => xs.length - st.2.toNat, ⟨0, rfl, Nat.zero_le _, OwnI.nil, Below.refl _ _⟩, ?_⟩
  rintro ⟨o, _⟩ w1 ⟨k, hk0, hk, ho, hb⟩
  simp only at hk0 ho
  subst hk0
  unfold trystlaw10_Some.b1
  refine cond_d (fun hlt => ?_) fun hge => ⟨o, rfl, ?_, hb⟩
  · have hk' : k < xs.length := by omega
    obtain ⟨q, hq, hc⟩ := (h.keep hb).get (i := (k : Int)) (by omega) hlt
    rw [Int.toNat_natCast, List.getElem?_eq_getElem hk', Option.getD_some] at hc
    have step : ∀ x, x = (if 0 < n ∧ 0 ≤ xs[k] then xs[k] % n else xs[k]) → trystlaw10_Some.c2 (fun v w' => ∃ s' : Sl, v = .slice s'.a s'.len s'.cap ∧ OwnI w.heap.size 3 .i64 w' s' (someI xs n) ∧ Below w.heap.size w w')
        (fun l0' n1' out5' i6' w' => (l0' = s ∧ n1' = n ∧ ∃ k : Nat, i6' = k ∧ k ≤ xs.length ∧ OwnI w.heap.size 3 .i64 w' out5' ((someI xs n).take k) ∧ Below w.heap.size w w') ∧ xs.length - i6'.toNat < xs.length - ((k : Nat) : Int).toNat) s n o ((k : Nat) : Int) x w1 := by
      intro x hxe
      unfold trystlaw10_Some.c2
      intro w2
      obtain ⟨s', w', hr, ho', _, hb'⟩ := append_int (ty := 29) Tryd.underlying29 hi hz hsz hby rfl ho (x := x) (by rw [List.length_take]; unfold maxLen; omega) (by rw [List.length_take]; omega) hb.size
      refine ⟨_, _, _, _, hr, ?_⟩
      rw [inc (by omega)]
      refine ⟨⟨rfl, rfl, k + 1, rfl, by omega, ?_, hb.trans hb'⟩, by (try dsimp only); omega⟩
      have : (someI xs n).take (k + 1) = (someI xs n).take k ++ [x] := by
        rw [List.take_succ_eq_append_getElem (by omega), hxe]
        simp [someI]
      rw [this]; exact ho'
    refine ⟨by omega, hlt, q, hq, _, by rw [Int.toNat_natCast]; exact hc, cond_d (fun hn => cond_d (fun h0 => ⟨by omega, step _ ?_⟩) fun h0 => step _ ?_) fun hn => step _ ?_⟩
    · rw [if_pos ⟨by omega, by omega⟩, tmod_nn (by omega)]
    · rw [if_neg (by omega)]
    · rw [if_neg (by omega)]
  · rw [List.take_of_length_le (by omega)] at ho
    exact ho

/-! the wake -/

theorem wakes_spec {B : Nat} {w : World} {R : List Asn} (h : Sep B w R) (hT : PT B w) : CallsV Tryd.prog n_trystlaw10_wakes #[] w fun v w' => v = .bool true ∧ Sep B w' R ∧ Below B w w' := by
  refine trystlaw10_wakes.lift ?_
  unfold trystlaw10_wakes.main
  refine (new_spec h).mono ?_
  rintro _ w1 ⟨p, rfl, h1, hb1⟩
  refine ⟨_, rfl, cond_f' rfl ?_⟩
  refine (make_spec (t := ⟨1, 5, []⟩) (s := ⟨none, 0, 0⟩) h1 (hT.on hb1) (by show (5 : Int) ≤ _; omega) (fun _ _ _ _ => Ints.nil)).mono ?_
  rintro _ w2 ⟨m2, rfl, e2, h2, hb2⟩
  have hB2 := hb1.trans hb2
  have p2 : put (terms []) ⟨1, 5, []⟩ = ([⟨1, 5, []⟩], 0, 0) := by decide
  rw [p2] at e2 ⊢
  refine ⟨_, _, rfl, ?_⟩
  intro w3
  have hb3 : Below w2.heap.size w2 w3 := below_alloc _ _
  have hI3 : Ints .i64 w3 ⟨some (newA w2), 1, 1⟩ [0] := ints_one 0
  have h3 := h2.row (e := 3) (size := 1) (s := ⟨some (newA w2), 1, 1⟩) (n := 1) (vs := [Value.int .i64 0]) (w' := w3) (made_ints (xs := [0]) (by simp [maxLen])) hb3
  have hB3 := hB2.next hb3 h.le
  refine (make_spec (t := ⟨5, 0, [0]⟩) (s := ⟨some (newA w2), 1, 1⟩) h3.swap (hT.on hB3) (by show (0 : Int) ≤ _; omega) (fun X w' hs _ => rowInts (xs := [0]) 1 rfl hs (by simp))).mono ?_
  rintro _ w4 ⟨m4, rfl, e4, h4, hb4⟩
  have hB4 := hB3.trans hb4
  rw [e2] at e4 ⊢
  have p4 : put [⟨1, 5, []⟩] ⟨5, 0, [0]⟩ = ([⟨1, 5, []⟩, ⟨5, 0, [0]⟩], 1, 0) := by decide
  rw [p4] at e4 ⊢
  refine ⟨_, _, rfl, ?_⟩
  intro w5
  have hb5 : Below w4.heap.size w4 w5 := below_alloc _ _
  have h5 := h4.row (e := 3) (size := 1) (s := ⟨some (newA w4), 3, 3⟩) (n := 3) (vs := [Value.int .i64 1, .int .i64 0, .int .i64 0]) (w' := w5) (made_ints (xs := [1, 0, 0]) (by simp [maxLen])) hb5
  have hB5 := hB4.next hb5 h.le
  refine (make_spec (t := ⟨7, 0, [1, 0, 0]⟩) (s := ⟨some (newA w4), 3, 3⟩) h5.swap (hT.on hB5) (by show (0 : Int) ≤ _; omega) (fun X w' hs _ => rowInts (xs := [1, 0, 0]) 1 rfl hs (by simp))).mono ?_
  rintro _ w6 ⟨m6, rfl, e6, h6, hb6⟩
  have hB6 := hB5.trans hb6
  rw [e4] at e6 ⊢
  have p6 : put [⟨1, 5, []⟩, ⟨5, 0, [0]⟩] ⟨7, 0, [1, 0, 0]⟩ = ([⟨1, 5, []⟩, ⟨5, 0, [0]⟩, ⟨7, 0, [1, 0, 0]⟩], 2, 0) := by decide
  rw [p6] at e6 ⊢
  refine ⟨_, _, rfl, ?_⟩
  refine (unbox_spec h6 2 0).mono ?_
  rintro _ w7 ⟨s7, rfl, h7, hb7⟩
  rw [e6] at h7 ⊢
  have p7 : unboxT [⟨1, 5, []⟩, ⟨5, 0, [0]⟩, ⟨7, 0, [1, 0, 0]⟩] 2 0 = ([0], 0) := by decide
  rw [p7] at h7 ⊢
  have hI7 := rowInts (xs := [0]) 0 rfl h7 (by simp)
  have hl : s7.len = 1 := hI7.len
  obtain ⟨q, hq, hc⟩ := hI7.get (i := 0) (by omega) (by omega)
  refine ⟨_, _, _, _, rfl, cond_t rfl (cond_t rfl (cond_t rfl (cond_t rfl (cond_t rfl ?_))))⟩
  rw [hl]
  refine cond_t rfl ⟨by omega, by omega, q, hq, _, hc, rfl, ?_, hB6.trans hb7⟩
  exact h7.drop.drop.drop.drop

/-! what is built -/

def stepT (T : List Tm) (x : Stp) : Tm := ⟨x.kind, x.n, if x.raw = true then x.args else someI x.args (T.length : Int)⟩
def buildT (l : List Stp) : List Tm := (l.take 150).foldl (fun T x => (put T (stepT T x)).1) []

end Go.Proofs.YtpihglmgkfecbaaDoor
