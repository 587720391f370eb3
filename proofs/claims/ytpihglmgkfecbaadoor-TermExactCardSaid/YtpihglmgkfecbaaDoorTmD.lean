/-
  Terms: a node, and what is opened: contracts.
-/
import Derived.Test.YtpihglmgkfecbaaDoorTmC
import Derived.Test.YtpihglmgkfecbaaDoorLiftSweep
set_option linter.unusedVariables false
set_option linter.unusedSimpArgs false
namespace Go.Proofs.YtpihglmgkfecbaaDoor
open Go.Lf Go.RowKit

abbrev ownA (s : Sl) (xs : List Int) : Asn := rowA 3 1 s xs.length (xs.map (Value.int .i64))

def nodeT (T : List Tm) (i : Int) : Tm × Int := if inT T i then (tmAt T i, 0) else (⟨0, 0, []⟩, 8)
def arg0 (t : Tm) : Int := t.args[0]?.getD 0
def openT (T : List Tm) (i k : Int) : List Int × Int :=
  if ¬ (inT T i ∧ inT T k) then ([], 8) else if (tmAt T i).kind ≠ 6 then ([], 6) else if arg0 (tmAt T i) ≠ k then ([], 3) else ((tmAt T i).args.drop 1, 0)
def unboxT (T : List Tm) (i k : Int) : List Int × Int :=
  if ¬ (inT T i ∧ inT T k) then ([], 8) else if (tmAt T i).kind ≠ 7 then ([], 6) else if (tmAt T (arg0 (tmAt T i))).kind ≠ 5 then ([], 3) else
  if arg0 (tmAt T (arg0 (tmAt T i))) ≠ k then ([], 3) else ((tmAt T i).args.drop 2, 0)
def signedT (T : List Tm) (i k : Int) : List Int × Int :=
  if ¬ (inT T i ∧ inT T k) then ([], 8) else if (tmAt T i).kind ≠ 8 then ([], 6) else if (tmAt T k).kind ≠ 5 then ([], 6) else
  if arg0 (tmAt T i) ≠ arg0 (tmAt T k) then ([], 15) else ((tmAt T i).args.drop 1, 0)

theorem at_in {N : Nds} {i : Int} (h : inT (terms N) i) : ∃ s, N[i.toNat]? = some (tmAt (terms N) i, s) := by
  have hlt : i.toNat < (terms N).length := by unfold inT at h; omega
  have he : (terms N)[i.toNat]? = some (tmAt (terms N) i) := by
    unfold tmAt; rw [List.getElem?_eq_getElem hlt]; rfl
  exact terms_of he

theorem err_zero {T : List Tm} {t : Tm} (h : errOf T t = 0) : 1 ≤ t.kind ∧ t.kind ≤ 9 ∧ least t.kind ≤ t.args.length ∧ t.args.length ≤ mostOf t.kind ∧ (∀ x ∈ t.args, inT T x) ∧ 0 ≤ t.n := by
  unfold errOf at h
  split at h
  · exact absurd h (by decide)
  split at h
  · exact absurd h (by decide)
  split at h
  · exact absurd h (by decide)
  split at h
  · exact absurd h (by decide)
  rename_i h1 h2 h3 h4
  exact ⟨by omega, by omega, by omega, by omega, Decidable.not_not.1 h4, by omega⟩

theorem ok_at {T : List Tm} (h : TOk T) {i : Int} (hi : inT T i) : 1 ≤ (tmAt T i).kind ∧ (tmAt T i).kind ≤ 9 ∧ least (tmAt T i).kind ≤ (tmAt T i).args.length ∧ (tmAt T i).args.length ≤ mostOf (tmAt T i).kind ∧ (∀ x ∈ (tmAt T i).args, 0 ≤ x ∧ x < i) ∧ 0 ≤ (tmAt T i).n := by
  have hlt : i.toNat < T.length := by unfold inT at hi; omega
  have he : T[i.toNat]? = some (tmAt T i) := by unfold tmAt; rw [List.getElem?_eq_getElem hlt]; rfl
  obtain ⟨h1, h2, h3, h4, h5, h6⟩ := err_zero (h.good _ _ he)
  refine ⟨h1, h2, h3, h4, fun x hx => ?_, h6⟩
  have := h5 x hx
  unfold inT at this hi
  rw [List.length_take] at this
  omega

theorem ints_one {w : World} (i : Int) : Ints .i64 (w.alloc (.cells #[.int .i64 i] 3)) ⟨some (newA w), 1, 1⟩ [i] := (made_ints (w := w) (e := 3) (k := .i64) (xs := [i]) (by simp [maxLen])).ints (by simp)
theorem ints_two {w : World} (i k : Int) : Ints .i64 (w.alloc (.cells #[.int .i64 i, .int .i64 k] 3)) ⟨some (newA w), 2, 2⟩ [i, k] := (made_ints (w := w) (e := 3) (k := .i64) (xs := [i, k]) (by simp [maxLen])).ints (by simp)

theorem most_le (k : Int) : mostOf k ≤ 400 := by unfold mostOf; split <;> (try split) <;> omega

theorem arg_get {w : World} {s : Sl} {t : Tm} (h : Ints .i64 w s t.args) (h1 : 1 ≤ t.args.length) : (0 : Int) < (s.len : Int) ∧ ∃ q : Addr, s.a = some q ∧ w.cell? (q.add (0 : Int).toNat) = some (.int .i64 (arg0 t)) := by
  have hl := h.len
  refine ⟨by omega, ?_⟩
  obtain ⟨q, hq, hc⟩ := h.get (i := 0) (by omega) (by omega)
  exact ⟨q, hq, hc⟩

theorem node_spec {B : Nat} {w : World} {p : Addr} {N : Nds} {R : List Asn} (h : Sep B w (arA p N :: R)) (i : Int) :
    CallsV Tryd.prog n_term_Arena_Node #[.pointer (some p), .int .i64 i] w fun v w' => ∃ s' : Sl, v = .tuple #[.agg #[.int .i64 (nodeT (terms N) i).1.kind, .int .i64 (nodeT (terms N) i).1.n, .slice s'.a s'.len s'.cap], .int .i64 (nodeT (terms N) i).2] ∧
      Sep B w' (ownA s' (nodeT (terms N) i).1.args :: arA p N :: R) ∧ Below B w w' := by
  refine term_Arena_Node.lift ?_
  unfold term_Arena_Node.main
  intro w1 w2
  obtain ⟨h1, hb1⟩ := h.box [.int .i64 0, .int .i64 0, .slice none 0 0] 43
  have hb2' : Below w1.heap.size w1 w2 := below_alloc _ _
  have h2 : Sep B w2 (boxA (newA w) [.int .i64 0, .int .i64 0, .slice none 0 0] :: arA p N :: R) := h1.keep hb2'
  have hB2 : Below B w w2 := hb1.next hb2' h.le
  have hI : Ints .i64 w2 ⟨some (newA w1), 1, 1⟩ [i] := ints_one (w := w1) i
  clear_value w2
  obtain ⟨⟨sl, m⟩, ⟨hok, hcaps⟩, hS⟩ := h2.swap.unfold
  have hS : Sep B w2 (arL 43 p N sl m ++ (boxA (newA w) [.int .i64 0, .int .i64 0, .slice none 0 0] :: R)) := hS
  have hsl : sl.len = N.length := (hS.rowLen 1 rfl).1
  have hfew := hok.few
  rw [terms_len] at hfew
  refine (has_spec (s := ⟨some (newA w1), 1, 1⟩) (T := terms N) (by rw [terms_len, ← hsl]; exact hS.cell0 0 rfl rfl) hI).mono ?_
  rintro _ _ ⟨rfl, rfl⟩
  have e9 : (∀ x ∈ [i], inT (terms N) x) ↔ inT (terms N) i := by simp
  refine ⟨_, rfl, cond_not (fun hb => ?_) fun hb => ?_⟩
  · have hb := of_decide_eq_false hb
    rw [e9] at hb
    refine ⟨fun j hj => h2.wr 0 rfl (by simpa using hj), ?_⟩
    intro w4
    have hw4 : Sep B w4 (boxA (newA w) [.int .i64 0, .int .i64 0, .slice none 0 0] :: arA p N :: R) ∧ Below B w2 w4 := by
      obtain ⟨k1, b1⟩ := h2.set 0 rfl (j := 0) (by simp) (.int .i64 0)
      obtain ⟨k2, b2⟩ := k1.set 0 rfl (j := 1) (by simp) (.int .i64 0)
      obtain ⟨k3, b3⟩ := k2.set 0 rfl (j := 2) (by simp) (.slice none 0 0)
      exact ⟨k3, (b1.trans b2).trans b3⟩
    clear_value w4
    obtain ⟨h4, hb4⟩ := hw4
    refine ⟨_, h4.cell0 0 rfl rfl, _, h4.cell 0 rfl 1 rfl, _, _, _, h4.cell 0 rfl 2 rfl, ⟨none, 0, 0⟩, ?_, ?_, hB2.trans hb4⟩
    · unfold nodeT; rw [if_neg hb]
    · unfold nodeT; rw [if_neg hb]
      exact h4.drop.rowNil 3 1
  · have hb := of_decide_eq_true hb
    rw [e9] at hb
    obtain ⟨sx, hx⟩ := at_in hb
    have hi : 0 ≤ i ∧ i < (N.length : Int) := by unfold inT at hb; rw [terms_len] at hb; exact hb
    obtain ⟨q, hq, hc⟩ := hS.rowGet 1 (by omega) nodeC.w rfl hx
    have hc0 := hc 0 _ rfl
    rw [add_zero] at hc0
    refine ⟨p, rfl, _, _, _, hS.cell0 0 rfl rfl, hi.1, by omega, q, hq, _, hc0, _, hc 1 _ rfl, _, _, _, hc 2 _ rfl, ?_⟩
    intro w5
    refine ⟨fun j hj => wr_new _ _ _ (by simpa using hj), ?_⟩
    intro w6
    have e6 : w6 = w2.alloc (.cells #[.int .i64 (tmAt (terms N) i).kind, .int .i64 (tmAt (terms N) i).n, .slice sx.a sx.len sx.cap] 43) := box_set3
    clear_value w6
    obtain ⟨hS6, hb6⟩ := hS.box [.int .i64 (tmAt (terms N) i).kind, .int .i64 (tmAt (terms N) i).n, .slice sx.a sx.len sx.cap] 43
    rw [show (w2.alloc (.cells [Value.int .i64 (tmAt (terms N) i).kind, .int .i64 (tmAt (terms N) i).n, .slice sx.a sx.len sx.cap].toArray 43)) = w6 from e6.symm] at hS6 hb6
    have hB6 := hB2.trans hb6
    generalize newA w2 = tb at hS6 ⊢
    refine ⟨_, _, _, hS6.cell 0 rfl 2 rfl, ?_⟩
    have hal := (ok_at hok hb).2.2.2.1
    have hml := most_le (tmAt (terms N) i).kind
    refine (clone_spec (s := sx) (argsAt 4 rfl hS6 hx) (by show (tmAt (terms N) i).args.length ≤ _; omega)).mono ?_
    rintro _ w7 ⟨s', rfl, ho, hb7⟩
    have hS7 := (hS6.keep hb7)
    have hown : Sep B w7 (ownA s' (tmAt (terms N) i).args :: (boxA tb [.int .i64 (tmAt (terms N) i).kind, .int .i64 (tmAt (terms N) i).n, .slice sx.a sx.len sx.cap] :: (arL 43 p N sl m ++ (boxA (newA w) [.int .i64 0, .int .i64 0, .slice none 0 0] :: R)))) := Sep.row hS6 ho hb7
    have hB7 := hB6.next hb7 h.le
    refine ⟨_, _, _, rfl, hown.wr 1 rfl (j := 2) (by simp), ?_⟩
    obtain ⟨h8, hb8⟩ := hown.set 1 rfl (j := 2) (by simp) (.slice s'.a s'.len s'.cap)
    intro w8
    have h8 : Sep B w8 (ownA s' (tmAt (terms N) i).args :: (boxA tb [.int .i64 (tmAt (terms N) i).kind, .int .i64 (tmAt (terms N) i).n, .slice s'.a s'.len s'.cap] :: (arL 43 p N sl m ++ (boxA (newA w) [.int .i64 0, .int .i64 0, .slice none 0 0] :: R)))) := h8
    have hB8 : Below B w w8 := hB7.trans hb8
    clear_value w8
    refine ⟨_, h8.cell0 1 rfl rfl, _, h8.cell 1 rfl 1 rfl, _, _, _, h8.cell 1 rfl 2 rfl, ?_⟩
    refine ⟨fun j hj => h8.wr 6 rfl (by simpa using hj), ?_⟩
    intro w9
    have hw9 : Sep B w9 (ownA s' (tmAt (terms N) i).args :: (boxA tb [.int .i64 (tmAt (terms N) i).kind, .int .i64 (tmAt (terms N) i).n, .slice s'.a s'.len s'.cap] :: (arL 43 p N sl m ++ (boxA (newA w) [.int .i64 (tmAt (terms N) i).kind, .int .i64 (tmAt (terms N) i).n, .slice s'.a s'.len s'.cap] :: R)))) ∧ Below B w8 w9 := by
      obtain ⟨k1, b1⟩ := h8.set 6 rfl (j := 0) (by simp) (.int .i64 (tmAt (terms N) i).kind)
      obtain ⟨k2, b2⟩ := k1.set 6 rfl (j := 1) (by simp) (.int .i64 (tmAt (terms N) i).n)
      obtain ⟨k3, b3⟩ := k2.set 6 rfl (j := 2) (by simp) (.slice s'.a s'.len s'.cap)
      exact ⟨k3, (b1.trans b2).trans b3⟩
    clear_value w9
    obtain ⟨h9, hb9⟩ := hw9
    refine ⟨_, h9.cell0 6 rfl rfl, _, h9.cell 6 rfl 1 rfl, _, _, _, h9.cell 6 rfl 2 rfl, s', ?_, ?_, hB8.trans hb9⟩
    · unfold nodeT; rw [if_pos hb]
    · unfold nodeT; rw [if_pos hb]
      have k1 : Sep B w9 (arL 43 p N sl m ++ (ownA s' (tmAt (terms N) i).args :: boxA tb [.int .i64 (tmAt (terms N) i).kind, .int .i64 (tmAt (terms N) i).n, .slice s'.a s'.len s'.cap] :: boxA (newA w) [.int .i64 (tmAt (terms N) i).kind, .int .i64 (tmAt (terms N) i).n, .slice s'.a s'.len s'.cap] :: R)) :=
        Sep.comm (l := [ownA s' (tmAt (terms N) i).args, boxA tb [.int .i64 (tmAt (terms N) i).kind, .int .i64 (tmAt (terms N) i).n, .slice s'.a s'.len s'.cap]]) h9
      have k2 : Sep B w9 (arA p N :: _) := Sep.fold (sl, m) ⟨hok, hcaps⟩ k1
      have k3 := k2.swap
      have k4 : Sep B w9 (ownA s' (tmAt (terms N) i).args :: arA p N :: boxA (newA w) [.int .i64 (tmAt (terms N) i).kind, .int .i64 (tmAt (terms N) i).n, .slice s'.a s'.len s'.cap] :: R) := (k3.front 2 rfl).drop
      exact (k4.front 2 rfl).drop

end Go.Proofs.YtpihglmgkfecbaaDoor
