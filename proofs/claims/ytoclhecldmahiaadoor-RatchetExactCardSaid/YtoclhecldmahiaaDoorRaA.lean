/-
  Ratchets: keys in a row; is it right, what is wrong, turned on: contracts.
-/
import Derived.Test.YtoclhecldmahiaaDoorScA
import Derived.Test.YtoclhecldmahiaaDoorRcFns
import Derived.Test.YtoclhecldmahiaaDoorLiftB
set_option linter.unusedVariables false
set_option linter.unusedVariables false
set_option linter.unusedSimpArgs false
namespace Go.Proofs.YtoclhecldmahiaaDoor
open Go.Lf Go.RowKit

/-! keys in a row -/

abbrev Ky := Int × Int
def kyC (r : Ky) : List Value := [.int .i64 r.1, .int .i64 r.2]
theorem kyC_len (r : Ky) : (kyC r).length = 2 := rfl
def kyA (s : Sl) (ks : List Ky) : Asn := rowA 113 2 s ks.length (flat kyC ks)
/-- a slice reads as keys -/
structure Kys (w : World) (s : Sl) (ks : List Ky) : Prop where
  len : s.len = ks.length
  cap : s.len ≤ s.cap
  cell : ∀ (i : Nat) (r : Ky), ks[i]? = some r → ∃ q, s.a = some q ∧ w.cell? (q.add (i * 2)) = some (.int .i64 r.1) ∧ w.cell? ((q.add (i * 2)).add 1) = some (.int .i64 r.2)
theorem Kys.nil (w : World) : Kys w ⟨none, 0, 0⟩ [] := ⟨rfl, Nat.le_refl _, by simp⟩
theorem Kys.below {w w' : World} {s : Sl} {ks : List Ky} (h : Kys w s ks) (hb : Below w.heap.size w w') : Kys w' s ks :=
  ⟨h.len, h.cap, fun i r hi => by obtain ⟨q, hq, h1, h2⟩ := h.cell i r hi; exact ⟨q, hq, Below.here hb h1, Below.here hb h2⟩⟩
theorem Kys.same {w w' : World} {s : Sl} {ks : List Ky} (h : Kys w s ks) (hs : Same w w') : Kys w' s ks := h.below (hs.below _)
theorem Kys.empty {w : World} {s : Sl} {ks : List Ky} (h : Kys w s ks) : s.a = none → ks = [] := fun hn => by
  cases ks with
  | nil => rfl
  | cons g rs =>
    obtain ⟨q, hq, _⟩ := h.cell 0 g rfl
    rw [hn] at hq; cases hq
theorem flat_kys_one (ks : List Ky) : ∀ u ∈ flat kyC ks, u.oneCell' = true := by
  intro u hu
  unfold flat at hu
  rw [List.mem_flatMap] at hu
  obtain ⟨r, _, hu⟩ := hu
  simp [kyC] at hu
  rcases hu with rfl | rfl <;> rfl
theorem Kys.cells {w : World} {s : Sl} {ks : List Ky} (h : Kys w s ks) {a : Addr} (ha : s.a = some a) : ∀ j u, (flat kyC ks)[j]? = some u → w.cell? (a.add j) = some u := by
  intro j u hj
  have hlt := (List.getElem?_eq_some_iff.1 hj).1
  rw [flat_length kyC_len] at hlt
  have hi : j / 2 < ks.length := by omega
  obtain ⟨q, hq, h1, h2⟩ := h.cell (j / 2) ks[j / 2] (List.getElem?_eq_getElem hi)
  rw [ha] at hq
  obtain rfl := Option.some.inj hq
  have hm : j % 2 = 0 ∨ j % 2 = 1 := by omega
  have e := flat_get (f := kyC) kyC_len (List.getElem?_eq_getElem hi) (j := j % 2) (by omega)
  rw [show j / 2 * 2 + j % 2 = j by omega, hj] at e
  rw [add_add] at h2
  rcases hm with hm | hm
  · rw [hm] at e
    have e : u = .int .i64 ks[j / 2].1 := by simpa [kyC] using e
    rw [e, ← h1, show j / 2 * 2 = j by omega]
  · rw [hm] at e
    have e : u = .int .i64 ks[j / 2].2 := by simpa [kyC] using e
    rw [e, ← h2, show j / 2 * 2 + 1 = j by omega]
/-- the last ones -/
theorem Kys.drop {w : World} {s : Sl} {ks : List Ky} (h : Kys w s ks) {m : Nat} (hm : m ≤ ks.length) : Kys w ⟨if s.cap = m then s.a else s.a.map (·.add (m * 2)), s.len - m, s.cap - m⟩ (ks.drop m) := by
  have hl := h.len
  have hc := h.cap
  refine ⟨by simp [hl], by show s.len - m ≤ s.cap - m; omega, fun i r hi => ?_⟩
  rw [List.getElem?_drop] at hi
  have hlt := (List.getElem?_eq_some_iff.1 hi).1
  obtain ⟨q, hq, h1, h2⟩ := h.cell (m + i) r hi
  refine ⟨q.add (m * 2), ?_, ?_, ?_⟩
  · show (if s.cap = m then s.a else s.a.map (·.add (m * 2))) = _
    rw [if_neg (by omega), hq]; rfl
  · rw [add_add, ← Nat.add_mul]; exact h1
  · have e : (q.add (m * 2)).add (i * 2) = q.add ((m + i) * 2) := by rw [add_add, ← Nat.add_mul]
    rw [e]; exact h2

theorem t113 : ∃ i, Tryd.prog.info? 113 = some i ∧ i.zero = some (.agg #[.int .i64 0, .int .i64 0]) ∧ i.size = 2 ∧ i.bytes = 16 := ⟨Tryd.t113, by kernel_rfl, by kernel_rfl, by kernel_rfl, by kernel_rfl⟩

section
variable {W w w' : World} {L R : List Asn} {p : Addr} {T : List Tm}

theorem kyNow {B : Nat} (k : Nat) {s : Sl} {ks : List Ky} (hk : L[k]? = some (kyA s ks)) (h : Sep B w L) : Kys w s ks := by
  refine ⟨(h.rowLen k hk).1, ?_, fun i r hi => ?_⟩
  · obtain ⟨F, h1, _⟩ := h.get k hk
    rcases h1.1.2 with ⟨h1, h0⟩ | ⟨g, cap, cur, h1, _, _, hc, _⟩
    · simp only [Value.slice.injEq] at h1; omega
    · simp only [Value.slice.injEq] at h1; omega
  · obtain ⟨q, hq, hc⟩ := h.rowGet k (by omega) kyC_len hk hi
    have h0 := hc 0 _ rfl
    rw [add_zero] at h0
    exact ⟨q, hq, h0, hc 1 _ rfl⟩
theorem At.kys (k : Nat) {s : Sl} {ks : List Ky} (hk : L[k]? = some (kyA s ks)) (h : At W w L) : Kys w s ks := kyNow k hk h.s
theorem At.kyNil (h : At W w R) : At W w (kyA ⟨none, 0, 0⟩ [] :: R) := h.go (h.s.rowNil 113 2) (Below.refl _ _)

theorem At.tmp (h : At W w R) (ty : TypeId) {zs cs : List Value} (hl : zs.length = cs.length) :
    (∀ j, j < cs.length → Wr (w.alloc (.cells zs.toArray ty)) ((newA w).add j)) ∧ At W (setCells (newA w) cs 0 (w.alloc (.cells zs.toArray ty))) (boxA (newA w) cs :: R) := by
  refine ⟨fun j hj => wr_new _ _ _ (by simpa [hl] using hj), ?_⟩
  rw [box_set hl]
  exact h.go2 (h.s.box cs ty)
theorem At.box (h : At W w R) (ty : TypeId) (cs : List Value) : At W (w.alloc (.cells cs.toArray ty)) (boxA (newA w) cs :: R) := h.go2 (h.s.box cs ty)
/-- three cells of a box are written -/
theorem At.set3 (h : At W w R) (k : Nat) {q : Addr} {x y z : Value} (hk : R[k]? = some (boxA q [x, y, z])) (a b c : Value) : (∀ j, j < 3 → Wr w (q.add j)) ∧ At W (setCells q [a, b, c] 0 w) (R.set k (boxA q [a, b, c])) := by
  refine ⟨fun j hj => h.s.wr k hk (by simpa using hj), ?_⟩
  have hlt := (List.getElem?_eq_some_iff.1 hk).1
  obtain ⟨h1, b1⟩ := h.s.set k hk (j := 0) (by simp) a
  obtain ⟨h2, b2⟩ := h1.set k (p := q) (cs := [a, y, z]) (by simp [hlt]) (j := 1) (by simp) b
  obtain ⟨h3, b3⟩ := h2.set k (p := q) (cs := [a, b, z]) (by simp [hlt]) (j := 2) (by simp) c
  refine h.go ?_ ((b1.trans b2).trans b3)
  unfold setCells setCells setCells
  rw [List.set_set, List.set_set] at h3
  exact h3

theorem clone_kys (h : At W w R) {s : Sl} {ks : List Ky} (hr : Kys w s ks) (hl : ks.length ≤ 1000000) :
    CallsV Tryd.prog n_slices_Clone_Key #[.slice s.a s.len s.cap] w fun v w' => ∃ s' : Sl, v = .slice s'.a s'.len s'.cap ∧ At W w' (kyA s' ks :: R) := by
  refine slices_Clone_Key.lift ?_
  unfold slices_Clone_Key.main
  have hlen := hr.len
  cases ha : s.a with
  | none =>
    have := hr.empty ha
    subst this
    exact cond_t rfl ⟨⟨none, 0, 0⟩, rfl, h.kyNil⟩
  | some a =>
    refine cond_f' rfl ?_
    intro w1
    obtain ⟨i, hi, hz, hsz, hby⟩ := t113
    obtain ⟨s', w', hrun, hl', hown, hb⟩ := clone_go (t := 102) (ty := 102) Tryd.underlying102 hi hz hsz hby rfl (by omega) (w := w) (a := a) (m := ks.length) (c := s.cap) (news := Lf.flat kyC ks) (flat_length kyC_len ks) (hr.cells ha) (flat_kys_one ks) (by unfold maxLen; omega) (by omega)
    rw [← hlen] at hrun
    exact ⟨_, _, _, _, hrun, s', rfl, h.go (h.s.row hown hb) (hb.mono h.s.le)⟩

/-- one key more -/
theorem ky_more (k : Nat) {s : Sl} {ks : List Ky} (hk : L[k]? = some (kyA s ks)) (h : At W w L) (r : Ky) (hl : ks.length ≤ 1000000) :
    ∃ (s' : Sl) (w' : World), (builtin .append #[102, 102] 102 #[] #[.slice s.a s.len s.cap, .slice (some (newA w)) 1 1]).run Tryd.prog (w.alloc (.cells #[.int .i64 r.1, .int .i64 r.2] 113)) = .ok (.value (.slice s'.a s'.len s'.cap)) w' ∧ At W w' (L.set k (kyA s' (ks ++ [r]))) := by
  obtain ⟨i, hi, hz, hsz, hby⟩ := t113
  have hb1 := below_alloc w (.cells #[.int .i64 r.1, .int .i64 r.2] 113)
  have h1 := h.s.keep hb1
  obtain ⟨s', w', hr, _, h2, hb2⟩ := Sep.append (t := 102) (ty := 102) (c := 1) (m := 1) Tryd.underlying102 hi hz hsz hby rfl (by omega) k hk h1 (a := newA w) (news := kyC r) rfl
    (fun j u hu => by rw [← hu]; exact (cell_new w #[.int .i64 r.1, .int .i64 r.2] 113 j).trans (by simp [kyC]))
    (by intro u hu; simp [kyC] at hu; rcases hu with rfl | rfl <;> rfl) (by unfold maxLen; omega) (by omega) (by omega)
  refine ⟨s', w', hr, h.go ?_ ((hb1.mono h.s.le).trans hb2)⟩
  unfold kyA
  rw [flat_app, flat_one, List.length_append]
  exact h2

/-! is it right? -/

def ksOk (nx : Int) : Int → List Ky → Prop
  | _, [] => True
  | was, k :: r => was < k.1 ∧ k.1 < nx ∧ ksOk nx k.1 r
instance ksOk.dec (nx : Int) : ∀ (was : Int) (ks : List Ky), Decidable (ksOk nx was ks)
  | _, [] => .isTrue trivial
  | was, k :: r => by unfold ksOk; exact @instDecidableAnd _ _ _ (@instDecidableAnd _ _ _ (ksOk.dec nx k.1 r))
def RtOk (nx : Int) (ks : List Ky) : Prop := 0 ≤ nx ∧ nx ≤ 1073741824 ∧ ks.length ≤ 16 ∧ ksOk nx (-1) ks
instance (nx : Int) (ks : List Ky) : Decidable (RtOk nx ks) := by unfold RtOk; infer_instance

abbrev rtV (c nx : Int) (s : Sl) : Value := .agg #[.int .i64 c, .int .i64 nx, .slice s.a s.len s.cap]
abbrev rtC (c nx : Int) (s : Sl) : List Value := [.int .i64 c, .int .i64 nx, .slice s.a s.len s.cap]

def KeptK (W : World) (R : List Asn) (s : Sl) (ks : List Ky) : Prop := ∀ L w', At W w' (L ++ R) → Kys w' s ks
theorem KeptK.cons {s : Sl} {ks : List Ky} {X : Asn} (h : KeptK W R s ks) : KeptK W (X :: R) s ks := fun L w' hw => h (L ++ [X]) w' (by rw [List.append_assoc]; exact hw)
theorem KeptK.here {s : Sl} {ks : List Ky} : KeptK W (kyA s ks :: R) s ks := fun L w' hw => kyNow 0 rfl hw.dropL.s
theorem KeptK.nil : KeptK W R ⟨none, 0, 0⟩ [] := fun _ _ _ => Kys.nil _

theorem check_at (h : At W w R) (c nx : Int) {s : Sl} {ks : List Ky} (hl : ks.length ≤ 1000000) (hK : KeptK W R s ks) :
    CallsV Tryd.prog n_ratchet_Check #[rtV c nx s] w fun v w' => v = .int .i64 (if RtOk nx ks then 0 else 1) ∧ At W w' R := by
  refine ratchet_Check.lift (r0_2 := s) ?_
  unfold ratchet_Check.main
  have hlen := (hK [] w h).len
  intro w1
  have h1 : At W w1 (boxA (newA w) (rtC c nx s) :: R) := h.box 104 (rtC c nx s)
  clear_value w1
  generalize newA w = rb at h1 ⊢
  have bad : ¬ RtOk nx ks → (1 : Int) = if RtOk nx ks then 0 else 1 := fun hn => by rw [if_neg hn]
  refine ⟨_, h1.s.cell 0 rfl 1 rfl, cond_d (fun hn => ⟨by rw [← bad (fun h => by unfold RtOk at h; omega)], h1.drop⟩) fun hn => ⟨_, h1.s.cell 0 rfl 1 rfl, cond_d (fun hm => ⟨by rw [← bad (fun h => by unfold RtOk at h; omega)], h1.drop⟩) fun hm => ⟨_, _, _, h1.s.cell 0 rfl 2 rfl, cond_d (fun hk => ⟨by rw [← bad (fun h => by unfold RtOk at h; omega)], h1.drop⟩) fun hk => ?_⟩⟩⟩
  unfold ratchet_Check.c3
  refine ⟨_, _, _, h1.s.cell 0 rfl 2 rfl, ?_⟩
  have hiff : RtOk nx ks ↔ ksOk nx (-1) ks := ⟨fun h => h.2.2.2, fun h => ⟨by omega, by omega, by omega, h⟩⟩
  unfold ratchet_Check.l1
  refine ⟨fun t w' => ∃ k : Nat, t.2 = k ∧ k ≤ ks.length ∧ (ksOk nx (-1) ks ↔ ksOk nx t.1 (ks.drop k)) ∧ At W w' (boxA rb (rtC c nx s) :: R), fun t _ => ks.length - t.2.toNat, ⟨0, rfl, by omega, Iff.rfl, h1⟩, ?_⟩
  rintro ⟨was, _⟩ w2 ⟨k, rfl, hk', hi, h2⟩
  show ratchet_Check.b1 _ _ rb s ((s.len : Nat) : Int) was (k : Int) w2
  unfold ratchet_Check.b1
  have hi : ksOk nx (-1) ks ↔ ksOk nx was (ks.drop k) := hi
  refine cond_d (p := ((k : Nat) : Int) < ((s.len : Nat) : Int)) (fun hlt => ?_) fun hge => ?_
  · have hkl : k < ks.length := by omega
    obtain ⟨q, hq, c1, c2⟩ := (hK [_] w2 h2).cell k ks[k] (List.getElem?_eq_getElem hkl)
    rw [List.drop_eq_getElem_cons hkl] at hi
    unfold ksOk at hi
    have hi : ksOk nx (-1) ks ↔ (was < ks[k].1 ∧ ks[k].1 < nx ∧ ksOk nx ks[k].1 (ks.drop (k + 1))) := by
      rw [← show ksOk nx (-1) ks ↔ _ from Iff.rfl]
      cases ks with
      | nil => exact absurd hkl (by simp)
      | cons a r => exact hi
    refine ⟨by omega, hlt, q, hq, _, by rw [Int.toNat_natCast]; exact c1, _, by rw [Int.toNat_natCast]; exact c2, ?_⟩
    intro w3
    obtain ⟨k1, k2⟩ := h2.tmp 113 (zs := [.int .i64 0, .int .i64 0]) (cs := kyC ks[k]) rfl
    refine ⟨k1, ?_⟩
    intro w4
    have h4 : At W w4 (boxA (newA w2) (kyC ks[k]) :: boxA rb (rtC c nx s) :: R) := k2
    clear_value w4
    generalize newA w2 = kb at h4 ⊢
    refine ⟨_, h4.s.cell0 0 rfl rfl, cond_d (fun hle => ⟨by rw [← bad (fun h => by have := hi.1 (hiff.1 h); omega)], h4.drop.drop⟩) fun hle => ⟨_, h4.s.cell0 0 rfl rfl, _, h4.s.cell 1 rfl 1 rfl, cond_d (fun hge => ⟨by rw [← bad (fun h => by have := hi.1 (hiff.1 h); omega)], h4.drop.drop⟩) fun hge => ?_⟩⟩
    unfold ratchet_Check.c2
    refine ⟨_, h4.s.cell0 0 rfl rfl, ?_⟩
    rw [inc (by omega)]
    refine ⟨⟨rfl, rfl, rfl, k + 1, rfl, by omega, ?_, h4.drop⟩, by (try dsimp only); omega⟩
    rw [hi]
    exact ⟨fun h => h.2.2, fun h => ⟨by omega, by omega, h⟩⟩
  · rw [List.drop_eq_nil_of_le (by omega)] at hi
    exact ⟨by rw [if_pos (hiff.2 (hi.2 trivial))], h2.drop⟩

theorem rnew_at (h : At W w R) (c : Int) : CallsV Tryd.prog n_ratchet_New #[.int .i64 c] w fun v w' => v = rtV c 0 ⟨none, 0, 0⟩ ∧ At W w' R := by
  refine ratchet_New.lift ?_
  unfold ratchet_New.main
  intro w1
  obtain ⟨k1, k2⟩ := h.tmp 104 (zs := [.int .i64 0, .int .i64 0, .slice none 0 0]) (cs := rtC c 0 ⟨none, 0, 0⟩) rfl
  refine ⟨k1, ?_⟩
  intro w2
  have h2 : At W w2 (boxA (newA w) (rtC c 0 ⟨none, 0, 0⟩) :: R) := k2
  exact ⟨_, h2.s.cell0 0 rfl rfl, _, h2.s.cell 0 rfl 1 rfl, _, _, _, h2.s.cell 0 rfl 2 rfl, rfl, h2.drop⟩

def rtErr (T : List Tm) (c nx : Int) (ks : List Ky) : Int := if ¬ RtOk nx ks then 1 else if ¬ (inT T c ∧ ∀ k ∈ ks, inT T k.2) then 8 else 0

theorem wrong_at (h : At W w (arT p T :: R)) (c nx : Int) {s : Sl} {ks : List Ky} (hl : ks.length ≤ 1000000) (hK : KeptK W R s ks) :
    CallsV Tryd.prog n_ratchet_wrong #[.pointer (some p), rtV c nx s] w fun v w' => v = .int .i64 (rtErr T c nx ks) ∧ At W w' (arT p T :: R) := by
  refine ratchet_wrong.lift (r1_2 := s) ?_
  unfold ratchet_wrong.main
  have hlen := (hK [_] w h).len
  intro w1
  have h1 : At W w1 (boxA (newA w) [.pointer (some p)] :: arT p T :: R) := h.box 27 [.pointer (some p)]
  clear_value w1
  generalize newA w = cb at h1 ⊢
  intro w2
  have h2 : At W w2 (boxA (newA w1) (rtC c nx s) :: boxA cb [.pointer (some p)] :: arT p T :: R) := h1.box 104 (rtC c nx s)
  clear_value w2
  generalize newA w1 = rb at h2 ⊢
  refine ⟨_, h2.s.cell0 0 rfl rfl, _, h2.s.cell 0 rfl 1 rfl, _, _, _, h2.s.cell 0 rfl 2 rfl, ?_⟩
  refine (check_at h2 c nx hl hK.cons.cons.cons).mono ?_
  rintro _ w3 ⟨rfl, h3⟩
  unfold rtErr
  refine ⟨_, rfl, cond_n (fun hne => ?_) fun heq => ?_⟩
  · have hn : ¬ RtOk nx ks := fun h => hne (by rw [if_pos h])
    exact ⟨by rw [if_neg hn, if_pos hn], h3.drop.drop⟩
  have hok : RtOk nx ks := Classical.byContradiction fun hn => by rw [if_neg hn] at heq; omega
  rw [if_neg (fun h => h hok)]
  refine ⟨_, h3.s.cell0 1 rfl rfl, _, h3.s.cell0 0 rfl rfl, ?_⟩
  intro w4
  refine (has_new [c] (h3.front 2 rfl) (by simp)).mono ?_
  rintro _ w5 ⟨rfl, h5⟩
  have h5 : At W w5 (arT p T :: boxA rb (rtC c nx s) :: boxA cb [.pointer (some p)] :: R) := h5
  refine ⟨_, rfl, cond_not (fun hf => ?_) fun ht => ?_⟩
  · exact ⟨by rw [if_pos (fun h => of_decide_eq_false hf (by simpa using h.1))], (((h5.front 1 rfl).drop).front 1 rfl).drop⟩
  have hc : inT T c := by simpa using of_decide_eq_true ht
  refine ⟨_, _, _, h5.s.cell 1 rfl 2 rfl, ?_⟩
  have h6 : At W w5 (boxA cb [.pointer (some p)] :: arT p T :: R) := ((h5.front 1 rfl).drop).swap
  refine CallsV.mono (slices_ContainsFunc_Key__ratchet_wrong_1.lift (R := fun v w' => v = .bool (!decide (∀ r ∈ ks, inT T r.2)) ∧ At W w' (arT p T :: R)) ?_) ?_
  · unfold slices_ContainsFunc_Key__ratchet_wrong_1.main
    refine CallsV.mono (slices_IndexFunc_Key__ratchet_wrong_1.lift (R := fun v w' => ∃ x : Int, v = .int .i64 x ∧ (x ≥ 0 ↔ ¬ ∀ r ∈ ks, inT T r.2) ∧ At W w' (arT p T :: R)) ?_) ?_
    · unfold slices_IndexFunc_Key__ratchet_wrong_1.main slices_IndexFunc_Key__ratchet_wrong_1.l1
      refine ⟨fun t w' => ∃ k : Nat, t = k ∧ k ≤ ks.length ∧ (∀ r ∈ ks.take k, inT T r.2) ∧ At W w' (boxA cb [.pointer (some p)] :: arT p T :: R), fun t _ => ks.length - t.toNat, ⟨0, rfl, by omega, by simp, h6⟩, ?_⟩
      clear h6
      rintro _ w6 ⟨k, rfl, hk, hall, h6⟩
      unfold slices_IndexFunc_Key__ratchet_wrong_1.b1
      refine cond_d (p := ((k : Nat) : Int) < ((s.len : Nat) : Int)) (fun hlt => ?_) fun hge => ?_
      · have hk' : k < ks.length := by omega
        obtain ⟨q, hq, c1, c2⟩ := (hK [_, _] w6 h6).cell k ks[k] (List.getElem?_eq_getElem hk')
        refine ⟨by omega, hlt, q, hq, _, by rw [Int.toNat_natCast]; exact c1, _, by rw [Int.toNat_natCast]; exact c2, ?_⟩
        refine CallsV.mono (ratchet_wrong_1.lift (R := fun v w' => v = .bool (!decide (inT T ks[k].2)) ∧ At W w' (boxA cb [.pointer (some p)] :: arT p T :: R)) ?_) ?_
        · unfold ratchet_wrong_1.main
          intro w7
          have h7 : At W w7 (boxA (newA w6) (kyC ks[k]) :: boxA cb [.pointer (some p)] :: arT p T :: R) := h6.box 113 (kyC ks[k])
          clear_value w7
          generalize newA w6 = d at h7 ⊢
          refine ⟨_, h7.s.cell0 1 rfl rfl, _, h7.s.cell 0 rfl 1 rfl, ?_⟩
          intro w8
          refine (has_new [ks[k].2] (h7.front 2 rfl) (by simp)).mono ?_
          rintro _ w9 ⟨rfl, h9⟩
          have h9 : At W w9 (arT p T :: boxA d (kyC ks[k]) :: boxA cb [.pointer (some p)] :: R) := h9
          refine ⟨_, rfl, ?_, ((h9.front 1 rfl).drop).swap⟩
          simp
        · rintro _ w7 ⟨rfl, h7⟩
          refine ⟨_, rfl, cond_not (fun hf => ?_) fun ht => ?_⟩
          · have hout := of_decide_eq_false hf
            exact ⟨_, rfl, ⟨fun _ hn => hout (hn _ (List.getElem_mem hk')), fun _ => by omega⟩, h7.drop⟩
          · have hin := of_decide_eq_true ht
            rw [inc (by omega)]
            refine ⟨⟨rfl, rfl, rfl, k + 1, rfl, by omega, fun r hr => ?_, h7⟩, by (try dsimp only); omega⟩
            rw [List.take_succ_eq_append_getElem hk', List.mem_append, List.mem_singleton] at hr
            rcases hr with hr | rfl
            · exact hall r hr
            · exact hin
      · rw [List.take_of_length_le (by omega)] at hall
        exact ⟨-1, rfl, ⟨fun h => by omega, fun h => absurd hall h⟩, h6.drop⟩
    · rintro _ w6 ⟨x, rfl, hx, h6⟩
      refine ⟨x, rfl, ?_, h6⟩
      congr 1
      by_cases hp : ∀ r ∈ ks, inT T r.2
      · rw [decide_eq_false (fun h => hx.1 h hp), decide_eq_true hp]; rfl
      · rw [decide_eq_true (hx.2 hp), decide_eq_false hp]; rfl
  · rintro _ w6 ⟨rfl, h6⟩
    refine ⟨_, rfl, cond_not (fun hf => ?_) fun ht => ?_⟩
    · exact ⟨by rw [if_pos (fun h => of_decide_eq_false hf h.2)], h6⟩
    · exact ⟨by rw [if_neg (fun h => h ⟨hc, of_decide_eq_true ht⟩)], h6⟩

/-- turned on by one: the terms, the key, the chain -/
def turnT (T : List Tm) (c : Int) : List Tm × Int × Int :=
  ((put (put T ⟨4, 1, [c]⟩).1 ⟨4, 2, [c]⟩).1, (put T ⟨4, 1, [c]⟩).2.1, (put (put T ⟨4, 1, [c]⟩).1 ⟨4, 2, [c]⟩).2.1)

theorem turnT_good {T : List Tm} {c : Int} (hc : inT T c) (hl : T.length ≤ 900000) : ∃ k d : Nat, (turnT T c).2.1 = k ∧ (turnT T c).2.2 = d ∧ (turnT T c).1[k]? = some ⟨4, 1, [c]⟩ ∧ (turnT T c).1[d]? = some ⟨4, 2, [c]⟩ ∧ Grown T (turnT T c).1 2 ∧ (put T ⟨4, 1, [c]⟩).2.2 = 0 ∧ (put (put T ⟨4, 1, [c]⟩).1 ⟨4, 2, [c]⟩).2.2 = 0 := by
  obtain ⟨k, k1, k2, k3⟩ := putAt (err_kdf (n := 1) hc (by omega)) (by omega)
  have g1 : Grown T (put T ⟨4, 1, [c]⟩).1 1 := Grown.put T (by simp)
  have gl := g1.len
  obtain ⟨d, d1, d2, d3⟩ := putAt (T := (put T ⟨4, 1, [c]⟩).1) (err_kdf (n := 2) (g1.ext.inT hc) (by omega)) (by omega)
  have g2 : Grown (put T ⟨4, 1, [c]⟩).1 (put (put T ⟨4, 1, [c]⟩).1 ⟨4, 2, [c]⟩).1 1 := Grown.put _ (by simp)
  exact ⟨k, d, k1, d1, g2.ext _ _ k3, d3, g1.trans g2, k2, d2⟩

theorem turn_at (h : At W w (arT p T :: R)) {c nx : Int} (s : Sl) (hc : inT T c) (hl : T.length ≤ 900000) (hn : 0 ≤ nx ∧ nx ≤ 2000000000) :
    CallsV Tryd.prog n_ratchet_turn #[.pointer (some p), rtV c nx s] w fun v w' => v = .tuple #[.int .i64 (turnT T c).2.1, rtV (turnT T c).2.2 (nx + 1) s, .int .i64 0] ∧ At W w' (arT p (turnT T c).1 :: R) := by
  refine ratchet_turn.lift (r1_2 := s) ?_
  unfold ratchet_turn.main
  obtain ⟨_, _, _, _, _, _, hg, e1, e2⟩ := turnT_good hc hl
  intro w1
  have h1 : At W w1 (boxA (newA w) (rtC c nx s) :: arT p T :: R) := h.box 104 (rtC c nx s)
  clear_value w1
  generalize newA w = rb at h1 ⊢
  intro w2
  have h2 : At W w2 (boxA (newA w1) [.int .i64 0, .int .i64 0, .slice none 0 0] :: boxA rb (rtC c nx s) :: arT p T :: R) := h1.box 104 [.int .i64 0, .int .i64 0, .slice none 0 0]
  clear_value w2
  generalize newA w1 = tb at h2 ⊢
  refine ⟨_, h2.s.cell0 1 rfl rfl, ?_⟩
  intro w3
  refine (mk 4 1 [c] (h2.front 2 rfl) (by omega) (by simp)).mono ?_
  rintro _ w4 ⟨rfl, h4⟩
  have h4 : At W w4 (arT p (put T ⟨4, 1, [c]⟩).1 :: boxA tb [.int .i64 0, .int .i64 0, .slice none 0 0] :: boxA rb (rtC c nx s) :: R) := h4
  refine ⟨_, _, rfl, ?_⟩
  rw [e1]
  refine cond_t rfl ⟨_, h4.s.cell0 2 rfl rfl, ?_⟩
  intro w5
  refine (mk 4 2 [c] h4 (by omega) (by simp)).mono ?_
  rintro _ w6 ⟨rfl, h6⟩
  refine ⟨_, _, rfl, ?_⟩
  rw [e2]
  have h6 : At W w6 (arT p (turnT T c).1 :: boxA tb [.int .i64 0, .int .i64 0, .slice none 0 0] :: boxA rb (rtC c nx s) :: R) := h6
  obtain ⟨h7, b7⟩ := h6.s.set0 2 rfl (by simp) (.int .i64 (turnT T c).2.2)
  refine ⟨h6.s.wr0 2 rfl (by simp), ?_⟩
  intro w7
  have h7 : At W w7 (arT p (turnT T c).1 :: boxA tb [.int .i64 0, .int .i64 0, .slice none 0 0] :: boxA rb (rtC (turnT T c).2.2 nx s) :: R) := h6.go h7 b7
  clear_value w7
  unfold ratchet_turn.c1
  refine ⟨_, h7.s.cell 2 rfl 1 rfl, h7.s.wr 2 rfl (by simp), ?_⟩
  rw [w64 (n := nx + 1) (by omega)]
  obtain ⟨h8, b8⟩ := h7.s.set 2 rfl (j := 1) (by simp) (.int .i64 (nx + 1))
  intro w8
  have h8 : At W w8 (arT p (turnT T c).1 :: boxA tb [.int .i64 0, .int .i64 0, .slice none 0 0] :: boxA rb (rtC (turnT T c).2.2 (nx + 1) s) :: R) := h7.go h8 b8
  clear_value w8
  have h9 := h8.drew
  obtain ⟨k1, k2⟩ := h9.set3 1 rfl (.int .i64 (turnT T c).2.2) (.int .i64 (nx + 1)) (.slice s.a s.len s.cap)
  refine ⟨fun y => y.cell? rb = some (.int .i64 (turnT T c).2.2) ∧ y.cell? (rb.add 1) = some (.int .i64 (nx + 1)) ∧ y.cell? (rb.add 2) = some (.slice s.a s.len s.cap), ⟨h9.s.cell0 2 rfl rfl, h9.s.cell 2 rfl 1 rfl, h9.s.cell 2 rfl 2 rfl⟩, _, fun y hy => hy.1, _, fun y hy => hy.2.1, _, _, _, fun y hy => hy.2.2, k1, ?_⟩
  intro w10
  have h10 : At W w10 (arT p (turnT T c).1 :: boxA tb (rtC (turnT T c).2.2 (nx + 1) s) :: boxA rb (rtC (turnT T c).2.2 (nx + 1) s) :: R) := k2
  exact ⟨_, h10.s.cell0 1 rfl rfl, _, h10.s.cell 1 rfl 1 rfl, _, _, _, h10.s.cell 1 rfl 2 rfl, rfl, (((h10.front 1 rfl).drop).front 1 rfl).drop⟩

def sendErr (T : List Tm) (c nx : Int) (ks : List Ky) : Int := if rtErr T c nx ks ≠ 0 then rtErr T c nx ks else if nx = 1073741824 then 20 else 0

theorem rtErr0 {T : List Tm} {c nx : Int} {ks : List Ky} : rtErr T c nx ks = 0 ↔ RtOk nx ks ∧ inT T c ∧ ∀ k ∈ ks, inT T k.2 := by
  unfold rtErr
  constructor
  · intro h
    split at h
    · omega
    · rename_i h1
      split at h
      · omega
      · rename_i h2
        have h2 := Classical.not_not.1 h2
        exact ⟨Classical.not_not.1 h1, h2.1, h2.2⟩
  · rintro ⟨h1, h2, h3⟩
    rw [if_neg (fun h => h h1), if_neg (fun h => h ⟨h2, h3⟩)]

/-- what is sent next -/
theorem send_at (h : At W w (arT p T :: R)) (c nx : Int) {s : Sl} {ks : List Ky} (hl : ks.length ≤ 1000000) (hT : T.length ≤ 900000) (hK : KeptK W R s ks) :
    CallsV Tryd.prog n_ratchet_Send #[.pointer (some p), rtV c nx s] w fun v w' =>
      (sendErr T c nx ks ≠ 0 → v = .tuple #[.int .i64 0, .int .i64 0, rtV 0 0 ⟨none, 0, 0⟩, .int .i64 (sendErr T c nx ks)] ∧ At W w' (arT p T :: R)) ∧
      (sendErr T c nx ks = 0 → ∃ s' : Sl, v = .tuple #[.int .i64 (turnT T c).2.1, .int .i64 nx, rtV (turnT T c).2.2 (nx + 1) s', .int .i64 0] ∧ At W w' (kyA s' ks :: arT p (turnT T c).1 :: R)) := by
  refine ratchet_Send.lift (r1_2 := s) ?_
  unfold ratchet_Send.main
  intro w1
  have h1 : At W w1 (boxA (newA w) (rtC c nx s) :: arT p T :: R) := h.box 104 (rtC c nx s)
  clear_value w1
  generalize newA w = rb at h1 ⊢
  intro w2
  have h2 : At W w2 (boxA (newA w1) [.int .i64 0, .int .i64 0, .slice none 0 0] :: boxA rb (rtC c nx s) :: arT p T :: R) := h1.box 104 [.int .i64 0, .int .i64 0, .slice none 0 0]
  clear_value w2
  generalize newA w1 = tb at h2 ⊢
  refine ⟨_, h2.s.cell0 1 rfl rfl, _, h2.s.cell 1 rfl 1 rfl, _, _, _, h2.s.cell 1 rfl 2 rfl, ?_⟩
  refine (wrong_at (h2.front 2 rfl) c nx (s := s) hl hK.cons.cons).mono ?_
  rintro _ w3 ⟨rfl, h3⟩
  have h3 : At W w3 (arT p T :: boxA tb [.int .i64 0, .int .i64 0, .slice none 0 0] :: boxA rb (rtC c nx s) :: R) := h3
  have out : ∀ (e : Int) (w' : World), At W w' (arT p T :: boxA tb [.int .i64 0, .int .i64 0, .slice none 0 0] :: boxA rb (rtC c nx s) :: R) → e ≠ 0 → sendErr T c nx ks = e → (∀ j, j < 3 → Wr w' (tb.add j)) ∧
      (let w4 := setCells tb [.int .i64 0, .int .i64 0, .slice none 0 0] 0 w'; ∃ x_8 : Int, w4.cell? tb = some (.int .i64 x_8) ∧ ∃ x_9 : Int, w4.cell? (tb.add 1) = some (.int .i64 x_9) ∧ ∃ (a_10 : Option Addr) (l_11 c_12 : Nat), w4.cell? (tb.add 2) = some (.slice a_10 l_11 c_12) ∧
        (sendErr T c nx ks ≠ 0 → (Value.tuple #[.int .i64 0, .int .i64 0, .agg #[.int .i64 x_8, .int .i64 x_9, .slice a_10 l_11 c_12], .int .i64 e]) = .tuple #[.int .i64 0, .int .i64 0, rtV 0 0 ⟨none, 0, 0⟩, .int .i64 (sendErr T c nx ks)] ∧ At W w4 (arT p T :: R)) ∧
        (sendErr T c nx ks = 0 → ∃ s' : Sl, (Value.tuple #[.int .i64 0, .int .i64 0, .agg #[.int .i64 x_8, .int .i64 x_9, .slice a_10 l_11 c_12], .int .i64 e]) = .tuple #[.int .i64 (turnT T c).2.1, .int .i64 nx, rtV (turnT T c).2.2 (nx + 1) s', .int .i64 0] ∧ At W w4 (kyA s' ks :: arT p (turnT T c).1 :: R))) := by
    intro e w' h' hne he
    obtain ⟨k1, k2⟩ := h'.set3 1 rfl (.int .i64 0) (.int .i64 0) (.slice none 0 0)
    refine ⟨k1, ?_⟩
    have k2 : At W (setCells tb [.int .i64 0, .int .i64 0, .slice none 0 0] 0 w') (arT p T :: boxA tb [.int .i64 0, .int .i64 0, .slice none 0 0] :: boxA rb (rtC c nx s) :: R) := k2
    refine ⟨_, k2.s.cell0 1 rfl rfl, _, k2.s.cell 1 rfl 1 rfl, _, _, _, k2.s.cell 1 rfl 2 rfl, ?_⟩
    rw [he]
    exact ⟨fun _ => ⟨rfl, (((k2.front 1 rfl).drop).front 1 rfl).drop⟩, fun h => absurd h hne⟩
  refine ⟨_, rfl, cond_n (fun hne => ?_) fun heq => ?_⟩
  · exact out _ w3 h3 hne (by unfold sendErr; rw [if_pos hne])
  obtain ⟨hok, hc, hks⟩ := rtErr0.1 heq
  refine ⟨_, h3.s.cell 2 rfl 1 rfl, cond_e (fun hlast => ?_) fun hlast => ?_⟩
  · exact out 20 w3 h3 (by decide) (by unfold sendErr; rw [if_neg (fun h => h heq), if_pos hlast])
  have hs0 : sendErr T c nx ks = 0 := by unfold sendErr; rw [if_neg (fun h => h heq), if_neg hlast]
  have hnx : 0 ≤ nx ∧ nx ≤ 1073741824 := ⟨hok.1, hok.2.1⟩
  refine ⟨_, h3.s.cell 2 rfl 1 rfl, _, h3.s.cell0 2 rfl rfl, _, h3.s.cell 2 rfl 1 rfl, _, _, _, h3.s.cell 2 rfl 2 rfl, ?_⟩
  refine (turn_at h3 s hc hT (by omega)).mono ?_
  rintro _ w6 ⟨rfl, h6⟩
  have h6 : At W w6 (arT p (turnT T c).1 :: boxA tb [.int .i64 0, .int .i64 0, .slice none 0 0] :: boxA rb (rtC c nx s) :: R) := h6
  obtain ⟨k1, k2⟩ := h6.set3 1 rfl (.int .i64 (turnT T c).2.2) (.int .i64 (nx + 1)) (.slice s.a s.len s.cap)
  refine ⟨_, _, _, _, _, _, _, rfl, k1, ?_⟩
  intro w7
  have h7 : At W w7 (arT p (turnT T c).1 :: boxA tb (rtC (turnT T c).2.2 (nx + 1) s) :: boxA rb (rtC c nx s) :: R) := k2
  clear_value w7
  refine cond_n (fun h => absurd rfl h) fun _ => ⟨_, _, _, h7.s.cell 1 rfl 2 rfl, ?_⟩
  refine (clone_kys h7 (hK [_, _, _] w7 h7) (by omega)).mono ?_
  rintro _ w9 ⟨s9, rfl, h9⟩
  have h9 : At W w9 (kyA s9 ks :: arT p (turnT T c).1 :: boxA tb (rtC (turnT T c).2.2 (nx + 1) s) :: boxA rb (rtC c nx s) :: R) := h9
  obtain ⟨h10, b10⟩ := h9.s.set 2 rfl (j := 2) (by simp) (.slice s9.a s9.len s9.cap)
  refine ⟨_, _, _, rfl, h9.s.wr 2 rfl (by simp), ?_⟩
  intro w10
  have h10 : At W w10 (kyA s9 ks :: arT p (turnT T c).1 :: boxA tb (rtC (turnT T c).2.2 (nx + 1) s9) :: boxA rb (rtC c nx s) :: R) := h9.go h10 b10
  clear_value w10
  have h11 := h10.drew
  obtain ⟨m1, m2⟩ := h11.set3 2 rfl (.int .i64 (turnT T c).2.2) (.int .i64 (nx + 1)) (.slice s9.a s9.len s9.cap)
  refine ⟨fun y => y.cell? tb = some (.int .i64 (turnT T c).2.2) ∧ y.cell? (tb.add 1) = some (.int .i64 (nx + 1)) ∧ y.cell? (tb.add 2) = some (.slice s9.a s9.len s9.cap), ⟨h11.s.cell0 2 rfl rfl, h11.s.cell 2 rfl 1 rfl, h11.s.cell 2 rfl 2 rfl⟩, _, fun y hy => hy.1, _, fun y hy => hy.2.1, _, _, _, fun y hy => hy.2.2, m1, ?_⟩
  intro w12
  have h12 : At W w12 (kyA s9 ks :: arT p (turnT T c).1 :: boxA tb (rtC (turnT T c).2.2 (nx + 1) s9) :: boxA rb (rtC c nx s) :: R) := m2
  refine ⟨_, h12.s.cell0 2 rfl rfl, _, h12.s.cell 2 rfl 1 rfl, _, _, _, h12.s.cell 2 rfl 2 rfl, fun h => absurd hs0 h, fun _ => ⟨s9, rfl, ?_⟩⟩
  exact ((((h12.front 2 rfl).drop).front 2 rfl).drop)
end

end Go.Proofs.YtoclhecldmahiaaDoor

/-
  A ratchet's keys: one that was skipped, one further on: contracts.
-/
set_option linter.unusedVariables false
set_option linter.unusedSimpArgs false
namespace Go.Proofs.YtoclhecldmahiaaDoor
open Go.Lf Go.RowKit

theorem Grown.up {T T' : List Tm} {i j : Nat} (h : Grown T T' i) (hij : i ≤ j) : Grown T T' j := ⟨h.ext, Nat.le_trans h.len (by omega), h.nb⟩

theorem flat_take (ks : List Ky) : ∀ j, (flat kyC ks).take (j * 2) = flat kyC (ks.take j) := by
  induction ks with
  | nil => intro j; simp [flat]
  | cons a r ih =>
    intro j
    cases j with
    | zero => simp [flat]
    | succ j =>
      have e : flat kyC (a :: r) = .int .i64 a.1 :: .int .i64 a.2 :: flat kyC r := rfl
      rw [e, show (j + 1) * 2 = j * 2 + 1 + 1 by omega, List.take_succ_cons, List.take_succ_cons, ih j]
      rfl
theorem flat_drop (ks : List Ky) : ∀ j, (flat kyC ks).drop (j * 2) = flat kyC (ks.drop j) := by
  induction ks with
  | nil => intro j; simp [flat]
  | cons a r ih =>
    intro j
    cases j with
    | zero => simp [flat]
    | succ j =>
      have e : flat kyC (a :: r) = .int .i64 a.1 :: .int .i64 a.2 :: flat kyC r := rfl
      rw [e, show (j + 1) * 2 = j * 2 + 1 + 1 by omega, List.drop_succ_cons, List.drop_succ_cons, ih j]
      rfl

section
variable {W w w' : World} {L R : List Asn} {p : Addr} {T : List Tm}

theorem delete_at (k : Nat) {s : Sl} {ks : List Ky} (hk : L[k]? = some (kyA s ks)) (h : At W w L) {j : Nat} (hj : j < ks.length) :
    CallsV Tryd.prog n_slices_Delete_Key #[.slice s.a s.len s.cap, .int .i64 (j : Int), .int .i64 ((j + 1 : Nat) : Int)] w fun v w' => ∃ s' : Sl, v = .slice s'.a s'.len s'.cap ∧ At W w' (L.set k (kyA s' (ks.eraseIdx j))) := by
  refine slices_Delete_Key.lift ?_
  unfold slices_Delete_Key.main
  obtain ⟨i, hi, hz, hsz, hby⟩ := t113
  obtain ⟨q, hq, hl, hc, run⟩ := Sep.deleteAt (t := 102) (ty := 102) (ty2 := 0) Tryd.underlying102 hi hz hsz rfl (by intro u hu; simp [Value.cells] at hu; rcases hu with rfl | rfl <;> rfl) (by omega) k hk h.drew.s (flat_kys_one ks) hj
  obtain ⟨a, ha⟩ : ∃ a : Addr, (if s.cap = j + 1 then s.a else s.a.map (·.add ((j + 1) * 2))) = some a ∧ (ks.length - (j + 1) = 0 ∨ a = q.add ((j + 1) * 2)) := by
    by_cases hcj : s.cap = j + 1
    · rw [if_pos hcj, hq]; exact ⟨q, rfl, .inl (by omega)⟩
    · rw [if_neg hcj, hq]; exact ⟨_, rfl, .inr rfl⟩
  obtain ⟨w1, w2, r1, r2, h2, hb⟩ := run a (s.cap - (j + 1)) (s.cap - (ks.length - 1)) ha.2
  have e0 : (if s.cap = 0 then s.a else s.a.map (·.add (0 * 2))) = some q := by
    rw [if_neg (by omega), hq]
    show some (q.add 0) = some q
    rw [add_zero]
  have e2 : (if s.cap = ks.length - 1 then some q else (some q).map (·.add ((ks.length - 1) * 2))) = some (q.add ((ks.length - 1) * 2)) := by
    rw [if_neg (by omega)]; rfl
  refine ⟨by omega, by omega, by omega, by omega, cond_e (fun h => by omega) fun _ => ⟨fun _ => True, trivial, by omega, by omega, by omega, by omega, by omega, by omega, by omega, by omega, some q, ks.length - 1, s.cap, w1, ?_, by omega, by omega, by omega, by omega, w2, ?_, ⟨s.a, ks.length - 1, s.cap⟩, by rw [hq], ?_⟩⟩
  · have e : (Value.slice (if s.cap = 0 then s.a else s.a.map (·.add (0 * 2))) (j - 0) (s.cap - 0)) = .slice (some q) j s.cap := by rw [e0]; rfl
    have e' : (Value.slice (if s.cap = j + 1 then s.a else s.a.map (·.add ((j + 1) * 2))) (s.len - (j + 1)) (s.cap - (j + 1))) = .slice (some a) (ks.length - (j + 1)) (s.cap - (j + 1)) := by rw [ha.1, hl]
    rw [← e, ← e'] at r1
    exact r1
  · have e : (Value.slice (if s.cap = ks.length - 1 then some q else (some q).map (·.add ((ks.length - 1) * 2))) (s.len - (ks.length - 1)) (s.cap - (ks.length - 1))) = .slice (some (q.add ((ks.length - 1) * 2))) 1 (s.cap - (ks.length - 1)) := by
      rw [e2, hl, show ks.length - (ks.length - 1) = 1 by omega]
    rw [← e] at r2
    exact r2
  · refine h.drew.go ?_ hb
    unfold kyA
    have el : (ks.eraseIdx j).length = ks.length - 1 := by rw [List.length_eraseIdx, if_pos hj]
    have ef : flat kyC (ks.eraseIdx j) = (flat kyC ks).take (j * 2) ++ (flat kyC ks).drop ((j + 1) * 2) := by
      rw [flat_take, flat_drop, ← flat_app, List.eraseIdx_eq_take_drop_succ]
    rw [el, ef]
    exact h2

def idxK (ks : List Ky) (n : Int) : Int := match ks.findIdx? (fun g => g.1 == n) with | some i => (i : Int) | .none => -1

theorem idxK_none {ks : List Ky} {n : Int} (h : ∀ g ∈ ks, (g.1 == n) = false) : idxK ks n = -1 := by
  unfold idxK
  rw [List.findIdx?_eq_none_iff.2 h]
theorem idxK_some {ks : List Ky} {n : Int} {k : Nat} (hk : k < ks.length) (hh : (ks[k].1 == n) = true) (h : ∀ g ∈ ks.take k, (g.1 == n) = false) : idxK ks n = k := by
  unfold idxK
  have : ks.findIdx? (fun g => g.1 == n) = some k := by
    rw [List.findIdx?_eq_some_iff_getElem]
    refine ⟨hk, hh, fun j hj => ?_⟩
    have := h ks[j] (List.mem_take_iff_getElem.2 ⟨j, by omega, rfl⟩)
    simp only [this]; decide
  rw [this]
theorem idxK_at {ks : List Ky} {n : Int} (h : ¬ idxK ks n < 0) : ∃ (i : Nat) (g : Ky), idxK ks n = i ∧ ks[i]? = some g ∧ g.1 = n := by
  unfold idxK at h ⊢
  cases hf : ks.findIdx? (fun g => g.1 == n) with
  | none => rw [hf] at h; exact absurd (by decide) h
  | some i =>
    obtain ⟨hi, hp, _⟩ := List.findIdx?_eq_some_iff_getElem.1 hf
    exact ⟨i, ks[i], rfl, List.getElem?_eq_getElem hi, by simpa using hp⟩
theorem idxK_neg {ks : List Ky} {n : Int} (h : idxK ks n < 0) : ∀ g ∈ ks, g.1 ≠ n := by
  unfold idxK at h
  cases hf : ks.findIdx? (fun g => g.1 == n) with
  | none =>
    have := List.findIdx?_eq_none_iff.1 hf
    intro g hg e
    have := this g hg
    rw [e] at this
    simp at this
  | some i => rw [hf] at h; simp only at h; omega

theorem old_at (h : At W w R) (c nx n : Int) {s : Sl} {ks : List Ky} (hl : ks.length ≤ 1000000) (hK : KeptK W R s ks) :
    CallsV Tryd.prog n_ratchet_old #[rtV c nx s, .int .i64 n] w fun v w' =>
      (idxK ks n < 0 → v = .tuple #[.int .i64 0, rtV 0 0 ⟨none, 0, 0⟩, .int .i64 13] ∧ At W w' R) ∧
      (¬ idxK ks n < 0 → ∃ s' : Sl, v = .tuple #[.int .i64 (ks[(idxK ks n).toNat]?.getD (0, 0)).2, rtV c nx s', .int .i64 0] ∧ At W w' (kyA s' (ks.eraseIdx (idxK ks n).toNat) :: R)) := by
  refine ratchet_old.lift (r0_2 := s) ?_
  unfold ratchet_old.main
  have hlen := (hK [] w h).len
  intro w1
  have h1 : At W w1 (boxA (newA w) (rtC c nx s) :: R) := h.box 104 (rtC c nx s)
  clear_value w1
  generalize newA w = rb at h1 ⊢
  intro w2
  have h2 : At W w2 (boxA (newA w1) [.int .i64 n] :: boxA rb (rtC c nx s) :: R) := h1.box 3 [.int .i64 n]
  clear_value w2
  generalize newA w1 = nb at h2 ⊢
  intro w3
  have h3 : At W w3 (boxA (newA w2) [.int .i64 0, .int .i64 0, .slice none 0 0] :: boxA nb [.int .i64 n] :: boxA rb (rtC c nx s) :: R) := h2.box 104 [.int .i64 0, .int .i64 0, .slice none 0 0]
  clear_value w3
  generalize newA w2 = tb at h3 ⊢
  refine ⟨_, _, _, h3.s.cell 2 rfl 2 rfl, ?_⟩
  refine CallsV.mono (slices_IndexFunc_Key__ratchet_old_1.lift (R := fun v w' => v = .int .i64 (idxK ks n) ∧ At W w' (boxA tb [.int .i64 0, .int .i64 0, .slice none 0 0] :: boxA nb [.int .i64 n] :: boxA rb (rtC c nx s) :: R)) ?_) ?_
  · unfold slices_IndexFunc_Key__ratchet_old_1.main slices_IndexFunc_Key__ratchet_old_1.l1
    refine ⟨fun t w' => ∃ k : Nat, t = k ∧ k ≤ ks.length ∧ (∀ g ∈ ks.take k, (g.1 == n) = false) ∧ At W w' (boxA tb [.int .i64 0, .int .i64 0, .slice none 0 0] :: boxA nb [.int .i64 n] :: boxA rb (rtC c nx s) :: R), fun t _ => ks.length - t.toNat, ⟨0, rfl, by omega, by simp, h3⟩, ?_⟩
    rintro _ w4 ⟨k, rfl, hk, hall, h4⟩
    unfold slices_IndexFunc_Key__ratchet_old_1.b1
    refine cond_d (p := ((k : Nat) : Int) < ((s.len : Nat) : Int)) (fun hlt => ?_) fun hge => ?_
    · have hk' : k < ks.length := by omega
      obtain ⟨q, hq, c1, c2⟩ := (hK [_, _, _] w4 h4).cell k ks[k] (List.getElem?_eq_getElem hk')
      refine ⟨by omega, hlt, q, hq, _, by rw [Int.toNat_natCast]; exact c1, _, by rw [Int.toNat_natCast]; exact c2, ?_⟩
      refine CallsV.mono (ratchet_old_1.lift (R := fun v w' => v = .bool (ks[k].1 == n) ∧ At W w' (boxA tb [.int .i64 0, .int .i64 0, .slice none 0 0] :: boxA nb [.int .i64 n] :: boxA rb (rtC c nx s) :: R)) ?_) ?_
      · unfold ratchet_old_1.main
        intro w5
        have h5 : At W w5 (boxA (newA w4) (kyC ks[k]) :: boxA tb [.int .i64 0, .int .i64 0, .slice none 0 0] :: boxA nb [.int .i64 n] :: boxA rb (rtC c nx s) :: R) := h4.box 113 (kyC ks[k])
        exact ⟨_, h5.s.cell0 0 rfl rfl, _, h5.s.cell0 2 rfl rfl, rfl, h5.drop⟩
      · rintro _ w5 ⟨rfl, h5⟩
        refine ⟨_, rfl, cond_c (fun ht => ?_) fun hf => ?_⟩
        · exact ⟨by rw [idxK_some hk' ht hall], h5⟩
        · rw [inc (by omega)]
          refine ⟨⟨rfl, rfl, rfl, k + 1, rfl, by omega, fun g hg => ?_, h5⟩, by (try dsimp only); omega⟩
          rw [List.take_succ_eq_append_getElem hk', List.mem_append, List.mem_singleton] at hg
          rcases hg with hg | rfl
          · exact hall g hg
          · exact hf
    · rw [List.take_of_length_le (by omega)] at hall
      exact ⟨by rw [idxK_none hall], h4⟩
  · rintro _ w4 ⟨rfl, h4⟩
    refine ⟨_, rfl, cond_d (fun hneg => ?_) fun hpos => ?_⟩
    · obtain ⟨k1, k2⟩ := h4.set3 0 rfl (.int .i64 0) (.int .i64 0) (.slice none 0 0)
      refine ⟨k1, ?_⟩
      intro w5
      have k2 : At W w5 (boxA tb [.int .i64 0, .int .i64 0, .slice none 0 0] :: boxA nb [.int .i64 n] :: boxA rb (rtC c nx s) :: R) := k2
      exact ⟨_, k2.s.cell0 0 rfl rfl, _, k2.s.cell 0 rfl 1 rfl, _, _, _, k2.s.cell 0 rfl 2 rfl, fun _ => ⟨rfl, k2.drop.drop.drop⟩, fun h => absurd hneg h⟩
    · obtain ⟨i, g, hi, hg, hgn⟩ := idxK_at hpos
      have hil := (List.getElem?_eq_some_iff.1 hg).1
      obtain ⟨q, hq, c1, c2⟩ := (hK [_, _, _] w4 h4).cell i g hg
      rw [hi, Int.toNat_natCast]
      refine ⟨_, _, _, h4.s.cell 2 rfl 2 rfl, by omega, by omega, q, hq, _, c2, _, _, _, h4.s.cell 2 rfl 2 rfl, ?_⟩
      refine (clone_kys h4 (hK [_, _, _] w4 h4) (by omega)).mono ?_
      rintro _ w5 ⟨s5, rfl, h5⟩
      refine ⟨_, _, _, rfl, ?_⟩
      rw [inc (by omega)]
      refine (delete_at 0 rfl h5 hil).mono ?_
      rintro _ w6 ⟨s6, rfl, h6⟩
      have h6 : At W w6 (kyA s6 (ks.eraseIdx i) :: boxA tb [.int .i64 0, .int .i64 0, .slice none 0 0] :: boxA nb [.int .i64 n] :: boxA rb (rtC c nx s) :: R) := h6
      obtain ⟨h7, b7⟩ := h6.s.set 3 rfl (j := 2) (by simp) (.slice s6.a s6.len s6.cap)
      refine ⟨_, _, _, rfl, h6.s.wr 3 rfl (by simp), ?_⟩
      intro w7
      have h7 : At W w7 (kyA s6 (ks.eraseIdx i) :: boxA tb [.int .i64 0, .int .i64 0, .slice none 0 0] :: boxA nb [.int .i64 n] :: boxA rb (rtC c nx s6) :: R) := h6.go h7 b7
      clear_value w7
      have h8 := h7.drew
      obtain ⟨m1, m2⟩ := h8.set3 1 rfl (.int .i64 c) (.int .i64 nx) (.slice s6.a s6.len s6.cap)
      refine ⟨fun y => y.cell? rb = some (.int .i64 c) ∧ y.cell? (rb.add 1) = some (.int .i64 nx) ∧ y.cell? (rb.add 2) = some (.slice s6.a s6.len s6.cap), ⟨h8.s.cell0 3 rfl rfl, h8.s.cell 3 rfl 1 rfl, h8.s.cell 3 rfl 2 rfl⟩, _, fun y hy => hy.1, _, fun y hy => hy.2.1, _, _, _, fun y hy => hy.2.2, m1, ?_⟩
      intro w9
      have h9 : At W w9 (kyA s6 (ks.eraseIdx i) :: boxA tb (rtC c nx s6) :: boxA nb [.int .i64 n] :: boxA rb (rtC c nx s6) :: R) := m2
      refine ⟨_, h9.s.cell0 1 rfl rfl, _, h9.s.cell 1 rfl 1 rfl, _, _, _, h9.s.cell 1 rfl 2 rfl, fun h => by omega, fun _ => ⟨s6, ?_, ?_⟩⟩
      · rw [hg]; rfl
      · exact ((((((h9.front 1 rfl).drop).front 1 rfl).drop).front 1 rfl).drop)

/-! further on -/

def runT (T : List Tm) (c nx n : Int) : Nat → List Tm × Int × Int × List Ky
  | 0 => (T, c, 0, [])
  | m + 1 => ((turnT (runT T c nx n m).1 (runT T c nx n m).2.1).1, (turnT (runT T c nx n m).1 (runT T c nx n m).2.1).2.2, (turnT (runT T c nx n m).1 (runT T c nx n m).2.1).2.1,
      if nx + m < n then (runT T c nx n m).2.2.2 ++ [(nx + (m : Int), (turnT (runT T c nx n m).1 (runT T c nx n m).2.1).2.1)] else (runT T c nx n m).2.2.2)

theorem runT_good {T : List Tm} {c : Int} (hc : inT T c) (hl : T.length ≤ 400000) (nx n : Int) : ∀ m, m ≤ 1000 → Grown T (runT T c nx n m).1 (2 * m) ∧ inT (runT T c nx n m).1 (runT T c nx n m).2.1 ∧ (runT T c nx n m).2.2.2.length ≤ m := by
  intro m
  induction m with
  | zero => exact fun _ => ⟨Grown.refl T, hc, Nat.le_refl _⟩
  | succ m ih =>
    intro hm
    obtain ⟨h1, h2, h3⟩ := ih (by omega)
    have h1l := h1.len
    obtain ⟨k, d, _, d1, _, d3, hg, _, _⟩ := turnT_good h2 (by omega)
    refine ⟨(h1.trans hg).up (by omega), ?_, ?_⟩
    · show inT (turnT _ _).1 (turnT _ _).2.2
      rw [d1]; exact inT_of d3
    · show (if nx + m < n then _ else _ : List Ky).length ≤ _
      split
      · rw [List.length_append, List.length_singleton]; omega
      · omega

def last16 (l : List Ky) : List Ky := l.drop (l.length - 16)

def takeErr (T : List Tm) (c nx : Int) (ks : List Ky) (n : Int) : Int :=
  if rtErr T c nx ks ≠ 0 then rtErr T c nx ks else if n < 0 ∨ n ≥ 1073741824 then 1 else if n < nx then (if idxK ks n < 0 then 13 else 0) else if n - nx > 200 then 14 else 0
/-- the terms, the key, and the ratchet: its chain, its next number, its skipped keys -/
def takeT (T : List Tm) (c nx : Int) (ks : List Ky) (n : Int) : List Tm × Int × Int × Int × List Ky :=
  if n < nx then (T, (ks[(idxK ks n).toNat]?.getD (0, 0)).2, c, nx, ks.eraseIdx (idxK ks n).toNat)
  else ((runT T c nx n ((n - nx).toNat + 1)).1, (runT T c nx n ((n - nx).toNat + 1)).2.2.1, (runT T c nx n ((n - nx).toNat + 1)).2.1, n + 1, last16 (ks ++ (runT T c nx n ((n - nx).toNat + 1)).2.2.2))

set_option maxRecDepth 100000 in
theorem take_at (h : At W w (arT p T :: R)) (c nx n : Int) {s : Sl} {ks : List Ky} (hl : ks.length ≤ 1000000) (hT : T.length ≤ 400000) (hn1 : -9223372036854775808 ≤ n) (hK : KeptK W R s ks) :
    CallsV Tryd.prog n_ratchet_Take #[.pointer (some p), rtV c nx s, .int .i64 n] w fun v w' =>
      (takeErr T c nx ks n ≠ 0 → v = .tuple #[.int .i64 0, rtV 0 0 ⟨none, 0, 0⟩, .int .i64 (takeErr T c nx ks n)] ∧ At W w' (arT p T :: R)) ∧
      (takeErr T c nx ks n = 0 → ∃ s' : Sl, v = .tuple #[.int .i64 (takeT T c nx ks n).2.1, rtV (takeT T c nx ks n).2.2.1 (takeT T c nx ks n).2.2.2.1 s', .int .i64 0] ∧ At W w' (kyA s' (takeT T c nx ks n).2.2.2.2 :: arT p (takeT T c nx ks n).1 :: R)) := by
  refine ratchet_Take.lift (r1_2 := s) ?_
  unfold ratchet_Take.main
  generalize hRR : (fun (v : Value) (w' : World) => (takeErr T c nx ks n ≠ 0 → v = .tuple #[.int .i64 0, rtV 0 0 ⟨none, 0, 0⟩, .int .i64 (takeErr T c nx ks n)] ∧ At W w' (arT p T :: R)) ∧
      (takeErr T c nx ks n = 0 → ∃ s' : Sl, v = .tuple #[.int .i64 (takeT T c nx ks n).2.1, rtV (takeT T c nx ks n).2.2.1 (takeT T c nx ks n).2.2.2.1 s', .int .i64 0] ∧ At W w' (kyA s' (takeT T c nx ks n).2.2.2.2 :: arT p (takeT T c nx ks n).1 :: R))) = RR
  intro w1
  have h1 : At W w1 (boxA (newA w) (rtC c nx s) :: arT p T :: R) := h.box 104 (rtC c nx s)
  clear_value w1
  generalize newA w = rb at h1 ⊢
  intro w2
  have h2 : At W w2 (boxA (newA w1) [.int .i64 0, .int .i64 0, .slice none 0 0] :: boxA rb (rtC c nx s) :: arT p T :: R) := h1.box 104 [.int .i64 0, .int .i64 0, .slice none 0 0]
  clear_value w2
  generalize newA w1 = tb at h2 ⊢
  refine ⟨_, h2.s.cell0 1 rfl rfl, _, h2.s.cell 1 rfl 1 rfl, _, _, _, h2.s.cell 1 rfl 2 rfl, ?_⟩
  refine (wrong_at (h2.front 2 rfl) c nx (s := s) hl hK.cons.cons).mono ?_
  rintro _ w3 ⟨rfl, h3⟩
  have h3 : At W w3 (arT p T :: boxA tb [.int .i64 0, .int .i64 0, .slice none 0 0] :: boxA rb (rtC c nx s) :: R) := h3
  have out : ∀ (e : Int) (w' : World), At W w' (arT p T :: boxA tb [.int .i64 0, .int .i64 0, .slice none 0 0] :: boxA rb (rtC c nx s) :: R) → e ≠ 0 → takeErr T c nx ks n = e → (∀ j, j < 3 → Wr w' (tb.add j)) ∧
      (let w4 := setCells tb [.int .i64 0, .int .i64 0, .slice none 0 0] 0 w'; ∃ x_8 : Int, w4.cell? tb = some (.int .i64 x_8) ∧ ∃ x_9 : Int, w4.cell? (tb.add 1) = some (.int .i64 x_9) ∧ ∃ (a_10 : Option Addr) (l_11 c_12 : Nat), w4.cell? (tb.add 2) = some (.slice a_10 l_11 c_12) ∧
        RR (.tuple #[.int .i64 0, .agg #[.int .i64 x_8, .int .i64 x_9, .slice a_10 l_11 c_12], .int .i64 e]) w4) := by
    intro e w' h' hne he
    obtain ⟨k1, k2⟩ := h'.set3 1 rfl (.int .i64 0) (.int .i64 0) (.slice none 0 0)
    refine ⟨k1, ?_⟩
    have k2 : At W (setCells tb [.int .i64 0, .int .i64 0, .slice none 0 0] 0 w') (arT p T :: boxA tb [.int .i64 0, .int .i64 0, .slice none 0 0] :: boxA rb (rtC c nx s) :: R) := k2
    refine ⟨_, k2.s.cell0 1 rfl rfl, _, k2.s.cell 1 rfl 1 rfl, _, _, _, k2.s.cell 1 rfl 2 rfl, ?_⟩
    rw [← hRR]
    show (takeErr T c nx ks n ≠ 0 → _) ∧ (takeErr T c nx ks n = 0 → _)
    rw [he]
    exact ⟨fun _ => ⟨rfl, (((k2.front 1 rfl).drop).front 1 rfl).drop⟩, fun h => absurd h hne⟩
  refine ⟨_, rfl, cond_n (fun hne => ?_) fun heq => ?_⟩
  · exact out _ w3 h3 hne (by unfold takeErr; rw [if_pos hne])
  obtain ⟨hok, hc, hks⟩ := rtErr0.1 heq
  refine cond_d (fun hneg => ?_) fun hneg => ?_
  · unfold ratchet_Take.c4
    exact out 1 w3 h3 (by decide) (by unfold takeErr; rw [if_neg (fun h => h heq), if_pos (.inl hneg)])
  refine cond_d (fun hbig => ?_) fun hbig => ?_
  · unfold ratchet_Take.c4
    exact out 1 w3 h3 (by decide) (by unfold takeErr; rw [if_neg (fun h => h heq), if_pos (.inr hbig)])
  have hnn : ¬ (n < 0 ∨ n ≥ 1073741824) := by omega
  have hnx : 0 ≤ nx ∧ nx ≤ 1073741824 := ⟨hok.1, hok.2.1⟩
  unfold ratchet_Take.c5
  refine ⟨_, h3.s.cell 2 rfl 1 rfl, cond_d (fun hlt => ?_) fun hge => ?_⟩
  · refine ⟨_, h3.s.cell0 2 rfl rfl, _, h3.s.cell 2 rfl 1 rfl, _, _, _, h3.s.cell 2 rfl 2 rfl, ?_⟩
    refine (old_at h3 c nx n (s := s) hl hK.cons.cons.cons).mono ?_
    rintro v4 w4 ⟨q1, q2⟩
    by_cases hi : idxK ks n < 0
    · obtain ⟨rfl, h4⟩ := q1 hi
      obtain ⟨k1, k2⟩ := h4.set3 1 rfl (.int .i64 0) (.int .i64 0) (.slice none 0 0)
      refine ⟨_, _, _, _, _, _, _, rfl, ?_⟩
      exact out 13 w4 h4 (by decide) (by unfold takeErr; rw [if_neg (fun h => h heq), if_neg hnn, if_pos hlt, if_pos hi])
    · obtain ⟨s4, rfl, h4⟩ := q2 hi
      have h4 : At W w4 (kyA s4 (ks.eraseIdx (idxK ks n).toNat) :: arT p T :: boxA tb [.int .i64 0, .int .i64 0, .slice none 0 0] :: boxA rb (rtC c nx s) :: R) := h4
      obtain ⟨k1, k2⟩ := h4.set3 2 rfl (.int .i64 c) (.int .i64 nx) (.slice s4.a s4.len s4.cap)
      refine ⟨_, _, _, _, _, _, _, rfl, k1, ?_⟩
      intro w5
      have k2 : At W w5 (kyA s4 (ks.eraseIdx (idxK ks n).toNat) :: arT p T :: boxA tb (rtC c nx s4) :: boxA rb (rtC c nx s) :: R) := k2
      refine ⟨_, k2.s.cell0 2 rfl rfl, _, k2.s.cell 2 rfl 1 rfl, _, _, _, k2.s.cell 2 rfl 2 rfl, ?_⟩
      have he : takeErr T c nx ks n = 0 := by unfold takeErr; rw [if_neg (fun h => h heq), if_neg hnn, if_pos hlt, if_neg hi]
      have ht : takeT T c nx ks n = (T, (ks[(idxK ks n).toNat]?.getD (0, 0)).2, c, nx, ks.eraseIdx (idxK ks n).toNat) := by unfold takeT; rw [if_pos hlt]
      rw [← hRR]
      refine ⟨fun h => absurd he h, fun _ => ⟨s4, ?_, ?_⟩⟩
      · rw [ht]
      · rw [ht]; exact ((((k2.front 2 rfl).drop).front 2 rfl).drop)
  · refine ⟨_, h3.s.cell 2 rfl 1 rfl, ?_⟩
    rw [w64 (n := n - nx) (by omega)]
    refine cond_d (fun hskip => ?_) fun hskip => ?_
    · exact out 14 w3 h3 (by decide) (by unfold takeErr; rw [if_neg (fun h => h heq), if_neg hnn, if_neg hge, if_pos hskip])
    have he : takeErr T c nx ks n = 0 := by unfold takeErr; rw [if_neg (fun h => h heq), if_neg hnn, if_neg hge, if_neg hskip]
    obtain ⟨M, hM⟩ : ∃ M : Nat, M = (n - nx).toNat + 1 := ⟨_, rfl⟩
    have ht : takeT T c nx ks n = ((runT T c nx n M).1, (runT T c nx n M).2.2.1, (runT T c nx n M).2.1, n + 1, last16 (ks ++ (runT T c nx n M).2.2.2)) := by unfold takeT; rw [if_neg hge, hM]
    unfold ratchet_Take.c3
    have hksl := hok.2.2.1
    refine ⟨_, _, _, h3.s.cell 2 rfl 2 rfl, (clone_kys h3 (hK [_, _, _] w3 h3) (by omega)).mono ?_⟩
    rintro _ w4 ⟨s4, rfl, h4⟩
    refine ⟨_, _, _, rfl, ?_⟩
    unfold ratchet_Take.l2
    have good := runT_good hc hT nx n
    refine ⟨fun x w' => ∃ m : Nat, m ≤ M ∧ x.1 = (runT T c nx n m).2.2.1 ∧ At W w' (kyA x.2 (ks ++ (runT T c nx n m).2.2.2) :: arT p (runT T c nx n m).1 :: boxA tb [.int .i64 0, .int .i64 0, .slice none 0 0] :: boxA rb (rtC (runT T c nx n m).2.1 (nx + m) s) :: R), fun _ w' => match w'.cell? (rb.add 1) with | some (.int .i64 x) => (n + 1 - x).toNat | _ => 0, ⟨0, by omega, rfl, ?_⟩, ?_⟩
    · show At W w4 (kyA s4 (ks ++ []) :: arT p T :: boxA tb [.int .i64 0, .int .i64 0, .slice none 0 0] :: boxA rb (rtC c (nx + (0 : Nat)) s) :: R)
      rw [List.append_nil, show nx + ((0 : Nat) : Int) = nx by omega]
      exact h4
    clear h4
    rintro ⟨_, sk⟩ w5 ⟨m, hm, rfl, h5⟩
    have h5 : At W w5 (kyA sk (ks ++ (runT T c nx n m).2.2.2) :: arT p (runT T c nx n m).1 :: boxA tb [.int .i64 0, .int .i64 0, .slice none 0 0] :: boxA rb (rtC (runT T c nx n m).2.1 (nx + m) s) :: R) := h5
    show ratchet_Take.b2 RR _ (some p) n rb tb (runT T c nx n m).2.2.1 sk w5
    obtain ⟨g1, g2, g3⟩ := good m (by omega)
    have g1l := g1.len
    have hcell := h5.s.cell 3 rfl 1 rfl
    have hmu : (match w5.cell? (rb.add 1) with | some (.int .i64 x) => (n + 1 - x).toNat | _ => 0) = (n + 1 - (nx + m)).toNat := by rw [hcell]
    dsimp only
    rw [hmu]
    unfold ratchet_Take.b2
    refine ⟨_, hcell, cond_d (fun hle => ?_) fun hgt => ?_⟩
    · refine ⟨_, hcell, _, h5.s.cell0 3 rfl rfl, _, hcell, _, _, _, h5.s.cell 3 rfl 2 rfl, ?_⟩
      refine (turn_at h5.swap s g2 (by omega) (by omega)).mono ?_
      rintro _ w6 ⟨rfl, h6⟩
      have h6 : At W w6 (arT p (runT T c nx n (m + 1)).1 :: kyA sk (ks ++ (runT T c nx n m).2.2.2) :: boxA tb [.int .i64 0, .int .i64 0, .slice none 0 0] :: boxA rb (rtC (runT T c nx n m).2.1 (nx + m) s) :: R) := h6
      obtain ⟨k1, k2⟩ := h6.set3 3 rfl (.int .i64 (runT T c nx n (m + 1)).2.1) (.int .i64 (nx + m + 1)) (.slice s.a s.len s.cap)
      refine ⟨_, _, _, _, _, _, _, rfl, k1, ?_⟩
      intro w7
      have k2 : At W w7 (arT p (runT T c nx n (m + 1)).1 :: kyA sk (ks ++ (runT T c nx n m).2.2.2) :: boxA tb [.int .i64 0, .int .i64 0, .slice none 0 0] :: boxA rb (rtC (runT T c nx n (m + 1)).2.1 (nx + m + 1) s) :: R) := k2
      clear_value w7
      have fin : ∀ {w' : World} {sk' : Sl}, At W w' (kyA sk' (ks ++ (runT T c nx n (m + 1)).2.2.2) :: arT p (runT T c nx n (m + 1)).1 :: boxA tb [.int .i64 0, .int .i64 0, .slice none 0 0] :: boxA rb (rtC (runT T c nx n (m + 1)).2.1 (nx + m + 1) s) :: R) →
          (some p = some p ∧ n = n ∧ rb = rb ∧ tb = tb ∧ ∃ m' : Nat, m' ≤ M ∧ (turnT (runT T c nx n m).1 (runT T c nx n m).2.1).2.1 = (runT T c nx n m').2.2.1 ∧ At W w' (kyA sk' (ks ++ (runT T c nx n m').2.2.2) :: arT p (runT T c nx n m').1 :: boxA tb [.int .i64 0, .int .i64 0, .slice none 0 0] :: boxA rb (rtC (runT T c nx n m').2.1 (nx + m') s) :: R)) ∧
          (match w'.cell? (rb.add 1) with | some (.int .i64 x) => (n + 1 - x).toNat | _ => 0) < (n + 1 - (nx + m)).toNat := by
        intro w' sk' h'
        refine ⟨⟨rfl, rfl, rfl, rfl, m + 1, by omega, rfl, ?_⟩, ?_⟩
        · rw [show nx + ((m + 1 : Nat) : Int) = nx + m + 1 by omega]; exact h'
        · rw [h'.s.cell 3 rfl 1 rfl]
          show (n + 1 - (nx + m + 1)).toNat < _
          omega
      refine cond_n (fun h => absurd rfl h) fun _ => cond_d (fun hlt => ?_) fun hge2 => ?_
      · intro w8
        obtain ⟨s9, w9, hr9, h9⟩ := ky_more 1 rfl k2 (nx + (m : Int), (turnT (runT T c nx n m).1 (runT T c nx n m).2.1).2.1) (by rw [List.length_append]; omega)
        refine ⟨_, _, _, _, hr9, ?_⟩
        have e : (ks ++ (runT T c nx n m).2.2.2) ++ [(nx + (m : Int), (turnT (runT T c nx n m).1 (runT T c nx n m).2.1).2.1)] = ks ++ (runT T c nx n (m + 1)).2.2.2 := by
          show _ = ks ++ (if nx + m < n then _ else _)
          rw [if_pos hlt, List.append_assoc]
        have h9 : At W w9 (arT p (runT T c nx n (m + 1)).1 :: kyA s9 ((ks ++ (runT T c nx n m).2.2.2) ++ [(nx + (m : Int), (turnT (runT T c nx n m).1 (runT T c nx n m).2.1).2.1)]) :: boxA tb [.int .i64 0, .int .i64 0, .slice none 0 0] :: boxA rb (rtC (runT T c nx n (m + 1)).2.1 (nx + m + 1) s) :: R) := h9
        rw [e] at h9
        exact fin h9.swap
      · have e : (runT T c nx n m).2.2.2 = (runT T c nx n (m + 1)).2.2.2 := by
          show _ = (if nx + m < n then _ else _)
          rw [if_neg hge2]
        rw [e] at k2
        exact fin k2.swap
    · have hmM : m = M := by omega
      subst hmM
      unfold ratchet_Take.c1
      have hskl := (h5.kys 0 rfl).len
      have hskc := (h5.kys 0 rfl).cap
      rw [List.length_append] at hskl
      have hmax : (if 0 > IntKind.i64.wrap (((sk.len : Nat) : Int) - 16) then 0 else IntKind.i64.wrap (((sk.len : Nat) : Int) - 16)) = ((sk.len - 16 : Nat) : Int) := by
        rw [w64 (by omega)]
        split <;> omega
      rw [hmax]
      refine ⟨by omega, by omega, by omega, by omega, ?_⟩
      have hdr := (h5.kys 0 rfl).drop (m := sk.len - 16) (by rw [List.length_append]; omega)
      refine (clone_kys (s := ⟨if sk.cap = sk.len - 16 then sk.a else sk.a.map (·.add ((sk.len - 16) * 2)), sk.len - (sk.len - 16), sk.cap - (sk.len - 16)⟩) h5 hdr (by rw [List.length_drop, List.length_append]; omega)).mono ?_
      rintro _ w6 ⟨s6, rfl, h6⟩
      have h6 : At W w6 (kyA s6 ((ks ++ (runT T c nx n m).2.2.2).drop (sk.len - 16)) :: kyA sk (ks ++ (runT T c nx n m).2.2.2) :: arT p (runT T c nx n m).1 :: boxA tb [.int .i64 0, .int .i64 0, .slice none 0 0] :: boxA rb (rtC (runT T c nx n m).2.1 (nx + m) s) :: R) := h6
      have e16 : (ks ++ (runT T c nx n m).2.2.2).drop (sk.len - 16) = last16 (ks ++ (runT T c nx n m).2.2.2) := by
        unfold last16
        rw [List.length_append, ← hskl]
      rw [e16] at h6
      obtain ⟨h7, b7⟩ := h6.s.set 4 rfl (j := 2) (by simp) (.slice s6.a s6.len s6.cap)
      refine ⟨_, _, _, rfl, h6.s.wr 4 rfl (by simp), ?_⟩
      intro w7
      have h7 : At W w7 (kyA s6 (last16 (ks ++ (runT T c nx n m).2.2.2)) :: kyA sk (ks ++ (runT T c nx n m).2.2.2) :: arT p (runT T c nx n m).1 :: boxA tb [.int .i64 0, .int .i64 0, .slice none 0 0] :: boxA rb (rtC (runT T c nx n m).2.1 (nx + m) s6) :: R) := h6.go h7 b7
      clear_value w7
      have h8 := h7.drew
      have enx : nx + (m : Int) = n + 1 := by omega
      rw [enx] at h8
      obtain ⟨m1, m2⟩ := h8.set3 3 rfl (.int .i64 (runT T c nx n m).2.1) (.int .i64 (n + 1)) (.slice s6.a s6.len s6.cap)
      refine ⟨fun y => y.cell? rb = some (.int .i64 (runT T c nx n m).2.1) ∧ y.cell? (rb.add 1) = some (.int .i64 (n + 1)) ∧ y.cell? (rb.add 2) = some (.slice s6.a s6.len s6.cap), ⟨h8.s.cell0 4 rfl rfl, h8.s.cell 4 rfl 1 rfl, h8.s.cell 4 rfl 2 rfl⟩, _, fun y hy => hy.1, _, fun y hy => hy.2.1, _, _, _, fun y hy => hy.2.2, m1, ?_⟩
      intro w9
      have h9 : At W w9 (kyA s6 (last16 (ks ++ (runT T c nx n m).2.2.2)) :: kyA sk (ks ++ (runT T c nx n m).2.2.2) :: arT p (runT T c nx n m).1 :: boxA tb (rtC (runT T c nx n m).2.1 (n + 1) s6) :: boxA rb (rtC (runT T c nx n m).2.1 (n + 1) s6) :: R) := m2
      refine ⟨_, h9.s.cell0 3 rfl rfl, _, h9.s.cell 3 rfl 1 rfl, _, _, _, h9.s.cell 3 rfl 2 rfl, ?_⟩
      rw [← hRR]
      refine ⟨fun h => absurd he h, fun _ => ⟨s6, ?_, ?_⟩⟩
      · rw [ht]
      · rw [ht]
        have k1 := (h9.front 3 rfl).drop
        have k1 : At W w9 (kyA s6 (last16 (ks ++ (runT T c nx n m).2.2.2)) :: kyA sk (ks ++ (runT T c nx n m).2.2.2) :: arT p (runT T c nx n m).1 :: boxA rb (rtC (runT T c nx n m).2.1 (n + 1) s6) :: R) := k1
        have k2 := (k1.front 3 rfl).drop
        have k2 : At W w9 (kyA s6 (last16 (ks ++ (runT T c nx n m).2.2.2)) :: kyA sk (ks ++ (runT T c nx n m).2.2.2) :: arT p (runT T c nx n m).1 :: R) := k2
        exact (k2.front 1 rfl).drop
end

end Go.Proofs.YtoclhecldmahiaaDoor

/-
  A chain's arena, and a ratchet upon it: what is sent and taken; the law's own look.
-/
set_option linter.unusedVariables false
set_option linter.unusedSimpArgs false
namespace Go.Proofs.YtoclhecldmahiaaDoor
open Go.Lf Go.RowKit

def chAt (x : Nat) : Tm := if x = 0 then ⟨1, 1, []⟩ else if x % 2 = 1 then ⟨4, 1, [((x - 1 : Nat) : Int)]⟩ else ⟨4, 2, [((x - 2 : Nat) : Int)]⟩
/-- the arena of a chain that was turned so often -/
def chT (m : Nat) : List Tm := (List.range (2 * m + 1)).map chAt
theorem chT_len (m : Nat) : (chT m).length = 2 * m + 1 := by simp [chT]
theorem chT_at {m x : Nat} (h : x < 2 * m + 1) : (chT m)[x]? = some (chAt x) := by simp [chT, h]
theorem chAt_key (i : Nat) : chAt (2 * i + 1) = ⟨4, 1, [((2 * i : Nat) : Int)]⟩ := by
  unfold chAt
  rw [if_neg (by omega), if_pos (by omega)]
  rfl
theorem chAt_next (i : Nat) : chAt (2 * i + 2) = ⟨4, 2, [((2 * i : Nat) : Int)]⟩ := by
  unfold chAt
  rw [if_neg (by omega), if_neg (by omega)]
  rfl
theorem chAt_inj {x y : Nat} (h : chAt x = chAt y) : x = y := by
  unfold chAt at h
  by_cases hx : x = 0
  · by_cases hy : y = 0
    · omega
    · rw [if_pos hx, if_neg hy] at h
      by_cases hy2 : y % 2 = 1
      · rw [if_pos hy2] at h; exact absurd (congrArg Tm.kind h) (by simp)
      · rw [if_neg hy2] at h; exact absurd (congrArg Tm.kind h) (by simp)
  · by_cases hy : y = 0
    · rw [if_neg hx, if_pos hy] at h
      by_cases hx2 : x % 2 = 1
      · rw [if_pos hx2] at h; exact absurd (congrArg Tm.kind h) (by simp)
      · rw [if_neg hx2] at h; exact absurd (congrArg Tm.kind h) (by simp)
    · rw [if_neg hx, if_neg hy] at h
      by_cases hx2 : x % 2 = 1 <;> by_cases hy2 : y % 2 = 1
      · rw [if_pos hx2, if_pos hy2] at h
        have := congrArg Tm.args h
        simp at this
        omega
      · rw [if_pos hx2, if_neg hy2] at h
        exact absurd (congrArg Tm.n h) (by simp)
      · rw [if_neg hx2, if_pos hy2] at h
        exact absurd (congrArg Tm.n h) (by simp)
      · rw [if_neg hx2, if_neg hy2] at h
        have := congrArg Tm.args h
        simp at this
        omega
theorem chT_succ (m : Nat) : chT (m + 1) = chT m ++ [chAt (2 * m + 1), chAt (2 * m + 2)] := by
  unfold chT
  rw [show 2 * (m + 1) + 1 = 2 * m + 1 + 1 + 1 by omega, List.range_succ, List.range_succ]
  simp

/-- turned once more, or there already -/
theorem turn_ch {m i : Nat} (hi : i ≤ m) (hm : m ≤ 100000) (hok : TOk (chT m)) : turnT (chT m) ((2 * i : Nat) : Int) = (chT (if i = m then m + 1 else m), ((2 * i + 1 : Nat) : Int), ((2 * i + 2 : Nat) : Int)) := by
  have hin : inT (chT m) ((2 * i : Nat) : Int) := by unfold inT; rw [chT_len]; omega
  have e1 := err_kdf (n := 1) hin (by omega)
  have e2 := err_kdf (n := 2) hin (by omega)
  by_cases h : i = m
  · subst h
    rw [if_pos rfl]
    have f1 : put (chT i) ⟨4, 1, [((2 * i : Nat) : Int)]⟩ = (chT i ++ [⟨4, 1, [((2 * i : Nat) : Int)]⟩], ((2 * i + 1 : Nat) : Int), 0) := by
      rw [put_fresh e1 ?_ (by rw [chT_len]; omega), chT_len]
      intro u hu
      obtain ⟨x, hx, rfl⟩ := List.mem_map.1 hu
      rw [List.mem_range] at hx
      rw [← chAt_key]
      intro e
      have := chAt_inj e
      omega
    have f2 : put (chT i ++ [⟨4, 1, [((2 * i : Nat) : Int)]⟩]) ⟨4, 2, [((2 * i : Nat) : Int)]⟩ = (chT (i + 1), ((2 * i + 2 : Nat) : Int), 0) := by
      have hin' : inT (chT i ++ [⟨4, 1, [((2 * i : Nat) : Int)]⟩]) ((2 * i : Nat) : Int) := by unfold inT; rw [List.length_append, chT_len]; simp; omega
      rw [put_fresh (err_kdf hin' (by omega)) ?_ (by rw [List.length_append, chT_len]; simp; omega), List.length_append, chT_len, chT_succ, chAt_key, chAt_next]
      · simp
        omega
      · intro u hu
        rw [List.mem_append, List.mem_singleton] at hu
        rcases hu with hu | rfl
        · obtain ⟨x, hx, rfl⟩ := List.mem_map.1 hu
          rw [List.mem_range] at hx
          rw [← chAt_next]
          intro e
          have := chAt_inj e
          omega
        · simp
    unfold turnT
    rw [f1]
    show ((put (chT i ++ [_]) _).1, _, (put (chT i ++ [_]) _).2.1) = _
    rw [f2]
  · rw [if_neg h]
    have g1 : (chT m)[2 * i + 1]? = some ⟨4, 1, [((2 * i : Nat) : Int)]⟩ := by rw [chT_at (by omega), chAt_key]
    have g2 : (chT m)[2 * i + 2]? = some ⟨4, 2, [((2 * i : Nat) : Int)]⟩ := by rw [chT_at (by omega), chAt_next]
    have f1 := put_there hok g1 e1
    have f2 := put_there hok g2 e2
    unfold turnT
    rw [f1]
    show ((put (chT m) _).1, _, (put (chT m) _).2.1) = _
    rw [f2]

theorem errOf_prefix {T : List Tm} {n : Nat} {t : Tm} (h : errOf T t = 0) (hx : ∀ x ∈ t.args, x < n) (hn : n ≤ T.length) : errOf (T.take n) t = 0 := by
  obtain ⟨k1, k2, k3, k4, k5, k6, k7⟩ := errZ h
  refine errOk ⟨k1, k2⟩ k6 ?_ k3 k4 fun x hxa => ?_
  · rcases Int.lt_or_le 0 t.n with hp | hp
    · exact .inl (k7 hp)
    · exact .inr (by omega)
  · have h1 := k5 x hxa
    have h2 := hx x hxa
    unfold inT at h1 ⊢
    rw [List.length_take, Nat.min_eq_left hn]
    omega

theorem chT_ok {m : Nat} (hm : m ≤ 100000) : TOk (chT m) := by
  refine ⟨by rw [chT_len]; omega, fun i t hi => ?_, fun i j t hi hj => ?_⟩
  · have hlt := (List.getElem?_eq_some_iff.1 hi).1
    rw [chT_len] at hlt
    rw [chT_at hlt] at hi
    obtain rfl := Option.some.inj hi
    unfold chAt
    have hin : ∀ x : Nat, x < i → inT ((chT m).take i) (x : Int) := fun x hx => by unfold inT; rw [List.length_take, chT_len, Nat.min_eq_left (by omega)]; omega
    split
    · exact errOk (by simp) (by simp) (.inl (.inl rfl)) (by simp [least]) (by simp) (by simp)
    · split
      · exact err_kdf (hin _ (by omega)) (by omega)
      · exact err_kdf (hin _ (by omega)) (by omega)
  · have h1 := (List.getElem?_eq_some_iff.1 hi).1
    have h2 := (List.getElem?_eq_some_iff.1 hj).1
    rw [chT_len] at h1 h2
    rw [chT_at h1] at hi
    rw [chT_at h2] at hj
    exact chAt_inj (Option.some.inj (hi.trans hj.symm))

/-! a ratchet upon it -/

def kyJ (j : Nat) : Ky := ((j : Int), ((2 * j + 1 : Nat) : Int))
def skK (J : List Nat) : List Ky := J.map kyJ
structure RS (nx : Nat) (J : List Nat) : Prop where
  sorted : J.Pairwise (· < ·)
  lt : ∀ j ∈ J, j < nx
  len : J.length ≤ 16

theorem ksOk_of {nx : Nat} : ∀ {J : List Nat} {was : Int}, J.Pairwise (· < ·) → (∀ j ∈ J, j < nx) → (∀ j ∈ J, was < (j : Int)) → ksOk nx was (skK J)
  | [], _, _, _, _ => trivial
  | j :: r, was, hs, hl, hw => by
    refine ⟨hw j (by simp), ?_, ?_⟩
    · have := hl j (by simp)
      show (j : Int) < nx
      omega
    · refine ksOk_of (List.pairwise_cons.1 hs).2 (fun x hx => hl x (by simp [hx])) fun x hx => ?_
      have := (List.pairwise_cons.1 hs).1 x hx
      show (j : Int) < x
      omega

theorem RS.ok {nx : Nat} {J : List Nat} (h : RS nx J) (hn : nx ≤ 1073741824) : RtOk nx (skK J) :=
  ⟨by omega, by omega, by unfold skK; rw [List.length_map]; exact h.len, ksOk_of h.sorted h.lt fun j _ => by omega⟩

theorem RS.err {nx m : Nat} {J : List Nat} (h : RS nx J) (hn : nx ≤ m) (hm : m ≤ 100000) : rtErr (chT m) ((2 * nx : Nat) : Int) nx (skK J) = 0 := by
  refine rtErr0.2 ⟨h.ok (by omega), ?_, fun k hk => ?_⟩
  · unfold inT; rw [chT_len]; omega
  · unfold skK at hk
    obtain ⟨j, hj, rfl⟩ := List.mem_map.1 hk
    have := h.lt j hj
    show inT _ ((2 * j + 1 : Nat) : Int)
    unfold inT; rw [chT_len]; omega

theorem RS.nil (nx : Nat) : RS nx [] := ⟨List.Pairwise.nil, by simp, by simp⟩
theorem RS.up {nx n : Nat} {J : List Nat} (h : RS nx J) (hn : nx ≤ n) : RS n J := ⟨h.sorted, fun j hj => by have := h.lt j hj; omega, h.len⟩
theorem RS.erase {nx : Nat} {J : List Nat} (h : RS nx J) (i : Nat) : RS nx (J.eraseIdx i) :=
  ⟨h.sorted.sublist (List.eraseIdx_sublist _ _), fun j hj => h.lt j ((List.eraseIdx_sublist _ _).subset hj), Nat.le_trans (List.length_eraseIdx_le _ _) h.len⟩

/-- those that are skipped on the way -/
def wayJ (nx n : Nat) : List Nat := List.range' nx (n - nx)
def tailJ (L : List Nat) : List Nat := L.drop (L.length - 16)
theorem way_sorted {nx n : Nat} {J : List Nat} (h : RS nx J) : (J ++ wayJ nx n).Pairwise (· < ·) := by
  rw [List.pairwise_append]
  refine ⟨h.sorted, List.pairwise_lt_range', fun a ha b hb => ?_⟩
  have := h.lt a ha
  unfold wayJ at hb
  rw [List.mem_range'_1] at hb
  omega
theorem way_lt {nx n : Nat} {J : List Nat} (h : RS nx J) (hn : nx ≤ n) : ∀ j ∈ J ++ wayJ nx n, j < n := by
  intro j hj
  rw [List.mem_append] at hj
  rcases hj with hj | hj
  · have := h.lt j hj; omega
  · unfold wayJ at hj
    rw [List.mem_range'_1] at hj
    omega
theorem RS.further {nx n : Nat} {J : List Nat} (h : RS nx J) (hn : nx ≤ n) : RS (n + 1) (tailJ (J ++ wayJ nx n)) := by
  refine ⟨(way_sorted h).sublist (List.drop_sublist _ _), fun j hj => ?_, ?_⟩
  · have := way_lt h hn j (List.mem_of_mem_drop hj)
    omega
  · unfold tailJ; rw [List.length_drop]; omega

theorem run_ch {m nx : Nat} (hnm : nx ≤ m) (hm : m ≤ 50000) (n : Nat) : ∀ k, k ≤ 1000 → k ≤ n + 1 - nx → runT (chT m) ((2 * nx : Nat) : Int) nx n k =
    (chT (max m (nx + k)), ((2 * (nx + k) : Nat) : Int), (if k = 0 then 0 else ((2 * (nx + k - 1) + 1 : Nat) : Int)), skK (List.range' nx (min k (n - nx)))) := by
  intro k
  induction k with
  | zero => intro _ _; simp [runT, skK, Nat.max_eq_left hnm]
  | succ k ih =>
    intro hk hk2
    have e := ih (by omega) (by omega)
    have hle : nx + k ≤ max m (nx + k) := Nat.le_max_right _ _
    have hmm : max m (nx + k) ≤ 100000 := Nat.max_le.2 ⟨by omega, by omega⟩
    have ht := turn_ch (m := max m (nx + k)) (i := nx + k) hle hmm (chT_ok hmm)
    have e1 : (if nx + k = max m (nx + k) then max m (nx + k) + 1 else max m (nx + k)) = max m (nx + (k + 1)) := by
      by_cases hm2 : m ≤ nx + k
      · rw [Nat.max_eq_right hm2, if_pos rfl, Nat.max_eq_right (by omega)]; omega
      · rw [Nat.max_eq_left (by omega), if_neg (by omega), Nat.max_eq_left (by omega)]
    rw [e1] at ht
    have hd : runT (chT m) ((2 * nx : Nat) : Int) nx n (k + 1) = ((turnT (runT (chT m) ((2 * nx : Nat) : Int) nx n k).1 (runT (chT m) ((2 * nx : Nat) : Int) nx n k).2.1).1, (turnT (runT (chT m) ((2 * nx : Nat) : Int) nx n k).1 (runT (chT m) ((2 * nx : Nat) : Int) nx n k).2.1).2.2, (turnT (runT (chT m) ((2 * nx : Nat) : Int) nx n k).1 (runT (chT m) ((2 * nx : Nat) : Int) nx n k).2.1).2.1,
      if (nx : Int) + k < n then (runT (chT m) ((2 * nx : Nat) : Int) nx n k).2.2.2 ++ [((nx : Int) + (k : Int), (turnT (runT (chT m) ((2 * nx : Nat) : Int) nx n k).1 (runT (chT m) ((2 * nx : Nat) : Int) nx n k).2.1).2.1)] else (runT (chT m) ((2 * nx : Nat) : Int) nx n k).2.2.2) := rfl
    rw [hd, e]
    dsimp only
    rw [ht]
    dsimp only
    rw [if_neg (by omega : ¬ k + 1 = 0)]
    have e2 : ((2 * (nx + k) + 2 : Nat) : Int) = ((2 * (nx + (k + 1)) : Nat) : Int) := by omega
    have e3 : ((2 * (nx + (k + 1) - 1) + 1 : Nat) : Int) = ((2 * (nx + k) + 1 : Nat) : Int) := by omega
    have e4 : (if (nx : Int) + k < n then skK (List.range' nx (min k (n - nx))) ++ [((nx : Int) + (k : Int), ((2 * (nx + k) + 1 : Nat) : Int))] else skK (List.range' nx (min k (n - nx)))) = skK (List.range' nx (min (k + 1) (n - nx))) := by
      by_cases hlt : nx + k < n
      · rw [if_pos (by omega), Nat.min_eq_left (by omega), Nat.min_eq_left (by omega), List.range'_concat]
        unfold skK
        rw [List.map_append, Nat.one_mul]
        rfl
      · rw [if_neg (by omega), Nat.min_eq_right (by omega), Nat.min_eq_right (by omega)]
    rw [e2, e3, e4]

theorem skK_len (J : List Nat) : (skK J).length = J.length := by simp [skK]

theorem idx_skK {J : List Nat} {n : Nat} : (idxK (skK J) n < 0 ↔ n ∉ J) ∧ (∀ h : ¬ idxK (skK J) n < 0, ∃ i : Nat, idxK (skK J) n = i ∧ J[i]? = some n) := by
  have h2 : ∀ h : ¬ idxK (skK J) n < 0, ∃ i : Nat, idxK (skK J) n = i ∧ J[i]? = some n := by
    intro h
    obtain ⟨i, g, e1, e2, e3⟩ := idxK_at h
    refine ⟨i, e1, ?_⟩
    unfold skK at e2
    rw [List.getElem?_map] at e2
    cases hj : J[i]? with
    | none => rw [hj] at e2; cases e2
    | some j =>
      rw [hj] at e2
      obtain rfl := Option.some.inj e2
      have e3 : (j : Int) = n := e3
      rw [show j = n by omega]
  refine ⟨⟨fun h hn => ?_, fun h => Classical.byContradiction fun hn => ?_⟩, h2⟩
  · exact idxK_neg h (kyJ n) (List.mem_map.2 ⟨n, hn, rfl⟩) rfl
  · obtain ⟨i, _, hi⟩ := h2 hn
    exact h (List.mem_of_getElem? hi)

theorem map_erase {α β : Type} (f : α → β) : ∀ (l : List α) (i : Nat), (l.map f).eraseIdx i = (l.eraseIdx i).map f
  | [], i => by cases i <;> rfl
  | a :: r, 0 => rfl
  | a :: r, i + 1 => by
    show f a :: (r.map f).eraseIdx i = f a :: (r.eraseIdx i).map f
    rw [map_erase f r i]

theorem tail_skK (L : List Nat) : last16 (skK L) = skK (tailJ L) := by
  unfold last16 tailJ skK
  rw [List.length_map, List.map_drop]

/-- one further on is taken -/
theorem take_ch {m nx n : Nat} {J : List Nat} (h : RS nx J) (hnm : nx ≤ m) (hm : m ≤ 40000) (hn : nx ≤ n) (hj : n - nx ≤ 200) :
    takeErr (chT m) ((2 * nx : Nat) : Int) nx (skK J) n = 0 ∧ takeT (chT m) ((2 * nx : Nat) : Int) nx (skK J) n = (chT (max m (n + 1)), ((2 * n + 1 : Nat) : Int), ((2 * (n + 1) : Nat) : Int), ((n + 1 : Nat) : Int), skK (tailJ (J ++ wayJ nx n))) := by
  have he := h.err hnm (by omega)
  refine ⟨by unfold takeErr; rw [if_neg (fun h => h he), if_neg (by omega), if_neg (by omega), if_neg (by omega)], ?_⟩
  unfold takeT
  rw [if_neg (by omega)]
  have eM : ((n : Int) - (nx : Int)).toNat + 1 = n - nx + 1 := by omega
  rw [eM, run_ch hnm (by omega) n (n - nx + 1) (by omega) (by omega)]
  dsimp only
  rw [if_neg (by omega), show nx + (n - nx + 1) = n + 1 by omega, Nat.min_eq_right (by omega), show n + 1 - 1 = n by omega]
  have : skK J ++ skK (List.range' nx (n - nx)) = skK (J ++ wayJ nx n) := by unfold skK wayJ; rw [List.map_append]
  rw [this, tail_skK]
  rfl
theorem take_far {m nx n : Nat} {J : List Nat} (h : RS nx J) (hnm : nx ≤ m) (hm : m ≤ 40000) (hn : nx ≤ n) (hj : n - nx > 200) (hn2 : n < 1073741824) :
    takeErr (chT m) ((2 * nx : Nat) : Int) nx (skK J) n = 14 := by
  have he := h.err hnm (by omega)
  unfold takeErr; rw [if_neg (fun h => h he), if_neg (by omega), if_neg (by omega), if_pos (by omega)]
/-- one that was skipped -/
theorem take_old {m nx n : Nat} {J : List Nat} (h : RS nx J) (hnm : nx ≤ m) (hm : m ≤ 40000) (hn : n < nx) (hJ : n ∈ J) :
    takeErr (chT m) ((2 * nx : Nat) : Int) nx (skK J) n = 0 ∧ ∃ i : Nat, J[i]? = some n ∧ takeT (chT m) ((2 * nx : Nat) : Int) nx (skK J) n = (chT m, ((2 * n + 1 : Nat) : Int), ((2 * nx : Nat) : Int), (nx : Int), skK (J.eraseIdx i)) := by
  have he := h.err hnm (by omega)
  have hi : ¬ idxK (skK J) n < 0 := fun hh => idx_skK.1.1 hh hJ
  obtain ⟨i, e1, e2⟩ := idx_skK.2 hi
  refine ⟨by unfold takeErr; rw [if_neg (fun h => h he), if_neg (by omega), if_pos (by omega), if_neg hi], i, e2, ?_⟩
  unfold takeT
  rw [if_pos (by omega), e1, Int.toNat_natCast]
  have e3 : (skK J)[i]? = some (kyJ n) := by unfold skK; rw [List.getElem?_map, e2]; rfl
  rw [e3]
  have e4 : (skK J).eraseIdx i = skK (J.eraseIdx i) := by unfold skK; rw [map_erase]
  rw [e4]
  rfl
theorem take_gone {m nx n : Nat} {J : List Nat} (h : RS nx J) (hnm : nx ≤ m) (hm : m ≤ 40000) (hn : n < nx) (hJ : n ∉ J) : takeErr (chT m) ((2 * nx : Nat) : Int) nx (skK J) n = 13 := by
  have he := h.err hnm (by omega)
  unfold takeErr
  rw [if_neg (fun h => h he), if_neg (by omega), if_pos (by omega), if_pos (idx_skK.1.2 hJ)]
/-- one is sent -/
theorem send_ch {m nx : Nat} {J : List Nat} (h : RS nx J) (hnm : nx ≤ m) (hm : m ≤ 40000) :
    sendErr (chT m) ((2 * nx : Nat) : Int) nx (skK J) = 0 ∧ turnT (chT m) ((2 * nx : Nat) : Int) = (chT (if nx = m then m + 1 else m), ((2 * nx + 1 : Nat) : Int), ((2 * nx + 2 : Nat) : Int)) := by
  have he := h.err hnm (by omega)
  exact ⟨by unfold sendErr; rw [if_neg (fun h => h he), if_neg (by omega)], turn_ch hnm (by omega) (chT_ok (by omega))⟩

section
variable {W w : World} {R : List Asn}

theorem wakes19 (h : At W w R) : CallsV Tryd.prog n_trystlaw19_wakes #[] w fun v w' => v = .bool true ∧ At W w' R := by
  refine trystlaw19_wakes.lift ?_
  unfold trystlaw19_wakes.main
  refine (new_at h).mono ?_
  rintro _ w1 ⟨p, rfl, h1⟩
  refine ⟨_, rfl, cond_f' rfl ?_⟩
  refine (mk0 1 1 h1 (by omega)).mono ?_
  rintro _ w2 ⟨rfl, h2⟩
  have p2 : put [] ⟨1, 1, []⟩ = (chT 0, 0, 0) := by decide
  rw [p2] at h2 ⊢
  refine ⟨_, _, rfl, (rnew_at h2 0).mono ?_⟩
  rintro _ w3 ⟨rfl, h3⟩
  refine ⟨_, _, _, _, _, rfl, ?_⟩
  obtain ⟨e1, e2⟩ := take_ch (m := 0) (nx := 0) (n := 2) (RS.nil 0) (by omega) (by omega) (by omega) (by omega)
  refine (take_at (s := ⟨none, 0, 0⟩) (ks := []) h3 0 0 2 (by simp) (by rw [chT_len]; omega) (by omega) KeptK.nil).mono ?_
  rintro v4 w4 ⟨_, good⟩
  obtain ⟨s4, rfl, h4⟩ := good e1
  have e2 : takeT (chT 0) 0 0 [] 2 = (chT (max 0 3), ((2 * 2 + 1 : Nat) : Int), ((2 * 3 : Nat) : Int), ((3 : Nat) : Int), skK (tailJ ([] ++ wayJ 0 2))) := e2
  have h3l : chT (max 0 3) = chT 3 := rfl
  have hsk : skK (tailJ ([] ++ wayJ 0 2)) = [kyJ 0, kyJ 1] := rfl
  rw [e2, h3l, hsk] at h4
  rw [e2]
  have h4 : At W w4 (kyA s4 [kyJ 0, kyJ 1] :: arT p (chT 3) :: R) := h4
  have hs4 : s4.len = 2 := (h4.kys 0 rfl).len
  refine ⟨_, _, _, _, _, _, _, rfl, ?_⟩
  intro w5
  obtain ⟨k1, k2⟩ := h4.tmp 104 (zs := [.int .i64 0, .int .i64 0, .slice none 0 0]) (cs := rtC ((2 * 3 : Nat) : Int) ((3 : Nat) : Int) s4) rfl
  refine ⟨k1, ?_⟩
  intro w6
  have h6 : At W w6 (boxA (newA w4) (rtC ((2 * 3 : Nat) : Int) ((3 : Nat) : Int) s4) :: kyA s4 [kyJ 0, kyJ 1] :: arT p (chT 3) :: R) := k2
  clear_value w6
  generalize newA w4 = rb at h6 ⊢
  have h7 := h6.front 2 rfl
  have h7 : At W w6 (arT p (chT 3) :: boxA rb (rtC ((2 * 3 : Nat) : Int) ((3 : Nat) : Int) s4) :: kyA s4 [kyJ 0, kyJ 1] :: R) := h7
  obtain ⟨N, hN, h7s⟩ := Sep.arOut h7.s
  refine (node_spec h7s ((2 * 2 + 1 : Nat) : Int)).mono ?_
  rintro _ w8 ⟨s8, rfl, h8s, hb8⟩
  have hnode : nodeT (terms N) ((2 * 2 + 1 : Nat) : Int) = (⟨4, 1, [4]⟩, 0) := by rw [hN]; decide
  rw [hnode]
  have h8 : At W w8 (boxA rb (rtC ((2 * 3 : Nat) : Int) ((3 : Nat) : Int) s4) :: kyA s4 [kyJ 0, kyJ 1] :: R) := by
    exact (h7.go h8s hb8).drop.drop
  refine ⟨_, _, _, _, _, _, rfl, ?_⟩
  intro w9
  obtain ⟨m1, m2⟩ := h8.tmp 98 (zs := [.int .i64 0, .int .i64 0, .slice none 0 0]) (cs := [.int .i64 4, .int .i64 1, .slice s8.a s8.len s8.cap]) rfl
  refine ⟨m1, ?_⟩
  intro w10
  have h10 : At W w10 (boxA (newA w8) [.int .i64 4, .int .i64 1, .slice s8.a s8.len s8.cap] :: boxA rb (rtC ((2 * 3 : Nat) : Int) ((3 : Nat) : Int) s4) :: kyA s4 [kyJ 0, kyJ 1] :: R) := m2
  clear_value w10
  generalize newA w8 = nb at h10 ⊢
  refine cond_t rfl (cond_t rfl ⟨_, h10.s.cell0 0 rfl rfl, cond_t rfl ⟨_, h10.s.cell 0 rfl 1 rfl, cond_t rfl ⟨_, h10.s.cell 1 rfl 1 rfl, cond_t rfl ⟨_, _, _, h10.s.cell 1 rfl 2 rfl, ?_, h10.drop.drop.drop⟩⟩⟩⟩)
  rw [hs4]; rfl
end

end Go.Proofs.YtoclhecldmahiaaDoor
