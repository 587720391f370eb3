/-
  Numbers behind numbers (from LiftArr).
-/
import Derived.Test.YtledhokhcoeeeaaDoorStIs
import Derived.Test.YtledhokhcoeeeaaDoorStP
set_option linter.unusedVariables false
namespace Go.Lf
open Go Go.RowKit Go.ChangeShapes
set_option linter.unusedVariables false

/-- all of a slice behind numbers of the call's own -/
theorem append_more {P : Program} {t ty e : TypeId} {i : TypeInfo} {z : Value} {bytes : Nat} {k : IntKind} (ht : P.underlying t = some (.slice e)) (hi : P.info? e = some i) (hz : i.zero = some z) (hsize : i.size = 1) (hby : i.bytes = bytes) (hzs : z.cells.size = 1)
    {B : Nat} {w : World} {d s : Sl} {ys xs : List Int} (hd : OwnI B e k w d ys) (hB : B ≤ w.heap.size) (h : Ints k w s xs) (hm : ys.length + xs.length ≤ maxLen) (hb : (ys.length + xs.length) * bytes ≤ 140737488355328) :
    ∃ s' : Sl, ∃ w', (builtin .append #[t, t] ty #[] #[.slice d.a d.len d.cap, .slice s.a s.len s.cap]).run P w = .ok (.value (.slice s'.a s'.len s'.cap)) w' ∧ OwnI B e k w' s' (ys ++ xs) ∧ Below B w w' := by
  have hlen := h.len
  cases ha : s.a with
  | none =>
    have hx : xs = [] := by
      cases xs with
      | nil => rfl
      | cons x xs => obtain ⟨q, hq, _⟩ := h.cell 0 x rfl; rw [ha] at hq; cases hq
    subst hx
    have h0 : s.len = 0 := by simpa using hlen
    refine ⟨d, w, ?_, by rw [List.append_nil]; exact hd, Below.refl _ _⟩
    have hdc : d.len ≤ d.cap := by
      rcases hd.2 with ⟨h1, _⟩ | ⟨g, cap, cur, h1, _, _, hc, _⟩
      · simp only [Value.slice.injEq] at h1; omega
      · simp only [Value.slice.injEq] at h1; omega
    cases hda : d.a with
    | none => 
      rcases hd.2 with ⟨h1, _⟩ | ⟨g, cap, cur, h1, _⟩
      · simp only [Value.slice.injEq] at h1
        simp [builtin, Builtin.append_, run_underlying ht, run_sizeOf' hi, hsize, Builtin.lenOf, Builtin.firstCells, h0, h1.2.1, h1.2.2]
      · simp only [Value.slice.injEq] at h1; rw [hda] at h1; cases h1.1
    | some a =>
      simp [builtin, Builtin.append_, run_underlying ht, run_sizeOf' hi, hsize, Builtin.lenOf, Builtin.firstCells, h0, hdc, storeCells]
  | some a =>
    obtain ⟨v', w', hr, hown, hg, hn⟩ := run_append_own (P := P) w B t ty e i z 1 bytes ht hi hz hsize hby hzs (by omega) _ ys.length (ys.map (Value.int k)) hd a s.len s.cap (xs.map (Value.int k)) (by simp [hlen]) (ints_news h ha)
      one_ints (by rw [hlen]; exact hm) (by rw [hlen]; exact hb) hB
    have hv : ∃ s' : Sl, v' = .slice s'.a s'.len s'.cap := by
      rcases hown.2 with ⟨rfl, h0⟩ | ⟨g, cap, cur, rfl, _⟩
      · exact ⟨⟨none, 0, 0⟩, rfl⟩
      · exact ⟨⟨some ⟨g, 0, none⟩, _, cap⟩, rfl⟩
    obtain ⟨s', rfl⟩ := hv
    refine ⟨s', w', by simp [builtin, hr], ?_, (Below.refl B w).grown hg hB fun k hk => (hd.lt k hk).1⟩
    unfold OwnI
    rw [hlen, ← List.map_append] at hown
    rw [List.length_append]
    exact hown

theorem made_ints {w : World} {e : TypeId} {k : IntKind} {xs : List Int} (hx : xs.length ≤ maxLen) : OwnI w.heap.size e k (w.alloc (.cells (xs.map (Value.int k)).toArray e)) ⟨some (newA w), xs.length, xs.length⟩ xs :=
  row_made (by simp) hx

/-- what is behind the first ones -/
theorem Ints.drop {k : IntKind} {w : World} {s : Sl} {xs : List Int} (h : Ints k w s xs) {m : Nat} (hm : m ≤ xs.length) (hc : s.len ≤ s.cap) :
    Ints k w ⟨if s.cap = m then s.a else s.a.map (·.add m), s.len - m, s.cap - m⟩ (xs.drop m) := by
  have hl := h.len
  refine ⟨by simp [hl], by have := h.small; show s.len - m ≤ _; omega, fun i x hx => ?_⟩
  rw [List.getElem?_drop] at hx
  obtain ⟨p, hp, hlt, hcc⟩ := h.cell (m + i) x hx
  have := (List.getElem?_eq_some_iff.1 hx).1
  refine ⟨p.add m, ?_, by rw [add_block]; exact hlt, by rw [add_add]; exact hcc⟩
  show (if s.cap = m then s.a else s.a.map (·.add m)) = _
  rw [if_neg (by omega), hp]; rfl

theorem OwnI.cap {B : Nat} {e : TypeId} {k : IntKind} {w : World} {s : Sl} {xs : List Int} (h : OwnI B e k w s xs) : s.len ≤ s.cap := by
  rcases h.2 with ⟨h1, _⟩ | ⟨g, cap, cur, h1, _, _, hc, _⟩
  · simp only [Value.slice.injEq] at h1; omega
  · simp only [Value.slice.injEq] at h1; omega


end Go.Lf

/-
  A store: what lies where; errors; bytes of a number; a mark's sector.
-/
set_option linter.unusedVariables false
set_option linter.unusedSimpArgs false
namespace Go.Proofs.YtledhokhcoeeeaaDoor
open Go.Lf Go.RowKit

abbrev errT : Value := .iface 107 (.agg #[.pointer (some ⟨1, 66, none⟩)])
structure At (W w : World) (L : List Asn) : Prop where
  s : Sep W.heap.size w L
  b : Below W.heap.size W w
  g : W.cell? ⟨0, 0, none⟩ = some errT

theorem _root_.Go.Lf.Sep.less {B : Nat} {w : World} {L : List Asn} (k : Nat) {A : Asn} (hk : L[k]? = some A) (h : Sep B w L) : Sep B w (L.eraseIdx k) := (h.front k hk).drop
def byA (s : Sl) (xs : List Int) : Asn := rowA 5 1 s xs.length (xs.map (Value.int .u8))

section
variable {W w w' : World} {L L' R : List Asn} {p : Addr}

theorem At.start (hg : W.cell? ⟨0, 0, none⟩ = some errT) : At W W [] := ⟨Sep.nil (Nat.le_refl _), Below.refl _ _, hg⟩
theorem At.go (h : At W w L) (hs : Sep W.heap.size w' L') (hb : Below W.heap.size w w') : At W w' L' := ⟨hs, h.b.trans hb, h.g⟩
theorem At.go2 (h : At W w L) (hs : Sep W.heap.size w' L' ∧ Below W.heap.size w w') : At W w' L' := h.go hs.1 hs.2
theorem At.same (h : At W w L) (hs : Same w w') : At W w' L := h.go (h.s.same hs) (hs.below _)
theorem At.drew (h : At W w L) : At W w.drew L := h.same (Same.drew w)
theorem At.perm (h : At W w L) (hp : L.Perm L') : At W w L' := ⟨h.s.perm hp, h.b, h.g⟩
theorem At.drop {A : Asn} (h : At W w (A :: L)) : At W w L := ⟨h.s.drop, h.b, h.g⟩
theorem At.dropL (h : At W w (L ++ R)) : At W w R := ⟨h.s.dropL, h.b, h.g⟩
theorem At.swap {A C : Asn} (h : At W w (A :: C :: R)) : At W w (C :: A :: R) := ⟨h.s.swap, h.b, h.g⟩
theorem At.front (k : Nat) {A : Asn} (hk : L[k]? = some A) (h : At W w L) : At W w (A :: L.eraseIdx k) := ⟨h.s.front k hk, h.b, h.g⟩
theorem At.less (k : Nat) {A : Asn} (hk : L[k]? = some A) (h : At W w L) : At W w (L.eraseIdx k) := (h.front k hk).drop
theorem At.keep (h : At W w L) (hb : Below w.heap.size w w') : At W w' L := h.go (h.s.keep hb) (hb.mono h.s.le)
theorem At.ints (h : At W w L) {k : IntKind} {s : Sl} {xs : List Int} (hI : Ints k W s xs) : Ints k w s xs := hI.keep h.b
theorem At.cellW (h : At W w L) {q : Addr} {v : Value} (hc : W.cell? q = some v) : w.cell? q = some v := Below.here h.b hc
theorem At.laid (h : At W w L) : w.cell? ⟨0, 0, none⟩ = some errT := h.cellW h.g
theorem At.box (h : At W w L) (cs : List Value) (T : TypeId) : At W (w.alloc (.cells cs.toArray T)) (boxA (newA w) cs :: L) := h.go2 (h.s.box cs T)
theorem At.cell0 (h : At W w L) (k : Nat) {c : Value} {cs : List Value} (hk : L[k]? = some (boxA p (c :: cs))) : w.cell? p = some c := h.s.cell0 k hk rfl
theorem At.cell (h : At W w L) (k : Nat) {cs : List Value} (hk : L[k]? = some (boxA p cs)) (j : Nat) {c : Value} (hj : cs[j]? = some c) : w.cell? (p.add j) = some c := h.s.cell k hk j hj
/-- two cells are written -/
theorem At.set2 (h : At W w L) (k : Nat) {x y : Value} (hk : L[k]? = some (boxA p [x, y])) (c d : Value) : (∀ j, j < 2 → Wr w (p.add j)) ∧ At W (setCells p [c, d] 0 w) (L.set k (boxA p [c, d])) := by
  refine ⟨fun j hj => h.s.wr k hk hj, ?_⟩
  have h0 := h.s.set k hk (j := 0) (by simp) c
  have hk1 : (L.set k (boxA p ([x, y].set 0 c)))[k]? = some (boxA p [c, y]) := by
    rw [List.getElem?_set_self ((List.getElem?_eq_some_iff.1 hk).1)]
    rfl
  have h1 := h0.1.set k hk1 (j := 1) (by simp) d
  rw [List.set_set] at h1
  exact h.go h1.1 (h0.2.trans h1.2)
theorem At.len (h : At W w L) (k : Nat) {s : Sl} {xs : List Int} (hk : L[k]? = some (byA s xs)) : s.len = xs.length := (h.s.rowLen k hk).1
theorem byNow {B : Nat} (k : Nat) {s : Sl} {xs : List Int} (hk : L[k]? = some (byA s xs)) (h : Sep B w L) (hx : xs.length ≤ 9223372036854775807) : Ints .u8 w s xs := by
  obtain ⟨hl, _⟩ := h.rowLen k hk
  refine ⟨hl, by omega, fun i x hi => ?_⟩
  have hil := (List.getElem?_eq_some_iff.1 hi).1
  obtain ⟨q, hq, hc⟩ := h.rowCell k hk (j := i) (by simpa using hil)
  have := hc i (.int .u8 x) (by rw [List.getElem?_map, hi]; rfl)
  refine ⟨q, hq, ?_, this⟩
  have hb := World.block_lt_of_cell? _ _ this
  rwa [add_block] at hb
theorem At.bytes (h : At W w L) (k : Nat) {s : Sl} {xs : List Int} (hk : L[k]? = some (byA s xs)) (hx : xs.length ≤ 9223372036854775807) : Ints .u8 w s xs := byNow k hk h.s hx
/-- a new row of bytes -/
theorem At.own (h : At W w L) {s : Sl} {xs : List Int} (ho : OwnI w.heap.size 5 .u8 w' s xs) (hb : Below w.heap.size w w') : At W w' (byA s xs :: L) := h.go (h.s.row ho hb) (hb.mono h.s.le)
theorem At.noBytes (h : At W w L) : At W w (byA ⟨none, 0, 0⟩ [] :: L) := h.go (h.s.rowNil 5 1) (Below.refl _ _)
/-- a byte is written -/
theorem At.bset (h : At W w L) (k : Nat) {s : Sl} {xs : List Int} (hk : L[k]? = some (byA s xs)) {q : Addr} (hq : s.a = some q) {j : Nat} (hj : j < xs.length) (x : Int) : Wr w (q.add j) ∧ At W (w.setCell (q.add j) (.int .u8 x)) (L.set k (byA s (xs.set j x))) := by
  have hj' : j < (xs.map (Value.int .u8)).length := by simpa using hj
  refine ⟨h.s.rowWr k hk hq hj', ?_⟩
  have h1 := h.s.rowSet k hk hq hj' (.int .u8 x)
  unfold byA
  rw [List.map_set, List.length_set]
  exact h.go2 h1
theorem At.bcap (h : At W w L) (k : Nat) {s : Sl} {xs : List Int} (hk : L[k]? = some (byA s xs)) : s.len ≤ s.cap := by
  obtain ⟨F, hA, _⟩ := h.s.get k hk
  exact OwnI.cap (show OwnI 0 5 .u8 w s xs from hA.1)

/-! errors -/

/-- an error, or none -/
def ErrA (v : Value) (e : Int) : Asn where
  on F w := (e = 0 ∧ v = .nilIface) ∨ (e ≠ 0 ∧ ∃ b : Nat, v = .iface 89 (.pointer (some ⟨b, 0, none⟩)) ∧ F b ∧ w.cell? ⟨b, 1, none⟩ = some (.iface 24 (.int .i64 e)))
  loc := fun h hh => h.imp id fun ⟨h0, b, h1, h2, h3⟩ => ⟨h0, b, h1, h2, by rw [World.cell?_of_block (a := ⟨b, 1, none⟩) (hh b h2)]; exact h3⟩
  grow := fun h hh => h.imp id fun ⟨h0, b, h1, h2, h3⟩ => ⟨h0, b, h1, hh _ h2, h3⟩

theorem At.err (h : At W w L) (k : Nat) {v : Value} {e : Int} (hk : L[k]? = some (ErrA v e)) : (e = 0 ∧ v = .nilIface) ∨ (e ≠ 0 ∧ ∃ b : Nat, v = .iface 89 (.pointer (some ⟨b, 0, none⟩)) ∧ w.cell? ⟨b, 1, none⟩ = some (.iface 24 (.int .i64 e))) := by
  obtain ⟨F, hA, _⟩ := h.s.get k hk
  exact hA.imp id fun ⟨h0, b, h1, _, h3⟩ => ⟨h0, b, h1, h3⟩
theorem At.errNil (h : At W w L) (k : Nat) {v : Value} {e : Int} (hk : L[k]? = some (ErrA v e)) : nilB v = some (decide (e = 0)) := by
  rcases h.err k hk with ⟨rfl, rfl⟩ | ⟨h0, b, rfl, _⟩
  · rfl
  · rw [decide_eq_false h0]; rfl

theorem wrap_at (h : At W w L) (s : ByteArray) (e : Int) : CallsV Tryd.prog n_store_wrap #[.string s, .int .i64 e] w fun v w' => At W w' (ErrA v e :: L) := by
  refine store_wrap.lift ?_
  unfold store_wrap.main
  refine cond_e (fun he => ?_) fun he => ?_
  · obtain ⟨F, hF, hU, _⟩ : ∃ F : Nat → Prop, (ErrA .nilIface e).on F w ∧ (∀ i, F i → False) ∧ True := ⟨fun _ => False, .inl ⟨he, rfl⟩, fun _ h => h, trivial⟩
    exact h.go (h.s.new hF (fun i hi => (hU i hi).elim) (Below.refl _ _)) (Below.refl _ _)
  · intro w1
    have hb := below_alloc w (.cells #[.string s, .iface 24 (.int .i64 e)] 91)
    refine h.go (h.s.new (F := fun i => i = w.heap.size) (.inr ⟨he, w.heap.size, rfl, rfl, ?_⟩) (fun i hi => ?_) hb) (hb.mono h.s.le)
    · have := cell_new w #[.string s, .iface 24 (.int .i64 e)] 91 1
      rw [newA_add] at this
      exact this
    · subst hi
      exact ⟨Nat.le_refl _, by rw [size_alloc]; omega⟩

theorem is_at (h : At W w L) (k : Nat) {v : Value} {e : Int} (hk : L[k]? = some (ErrA v e)) : CallsV Tryd.prog n_errors_Is #[v, .iface 24 (.int .i64 10)] w fun r w' => r = .bool (e == 10) ∧ w' = w := by
  rcases h.err k hk with ⟨rfl, rfl⟩ | ⟨h0, b, rfl, hc⟩
  · refine Calls.mono (is_nil0 w) ?_
    rintro _ _ ⟨rfl, rfl⟩
    exact ⟨_, rfl, rfl, rfl⟩
  · refine Calls.mono (is_wrap0 b 0 e w hc) ?_
    rintro _ _ ⟨rfl, rfl⟩
    exact ⟨_, rfl, rfl, rfl⟩

theorem number_at (h : At W w L) (k : Nat) {v : Value} {e : Int} (hk : L[k]? = some (ErrA v e)) (h0 : e ≠ 0) : CallsV Tryd.prog n_store_number #[v] w fun r w' => r = .int .i64 e ∧ At W w' L := by
  rcases h.err k hk with ⟨he, _⟩ | ⟨_, b, rfl, hc⟩
  · exact absurd he h0
  refine store_number.lift ?_
  unfold store_number.main
  intro w1
  have hb1 := below_alloc w (.cells #[.int .i64 0] 24)
  have h1 := h.keep hb1
  have c0 : w1.cell? (newA w) = some (.int .i64 0) := cell_new0 w _ _
  refine Calls.mono (as_wrap0 b 0 e (newA w) (.int .i64 0) w1 h1.laid (Below.here hb1 hc) c0 (wr_new0 w _ _ (by simp)).2) ?_
  rintro _ w2 ⟨rfl, rfl⟩
  refine ⟨_, rfl, _, rfl, ?_⟩
  have hB : Below w.heap.size w ((asW (newA w) e w1).setCell (newA w) (.int .i64 e)) := by
    unfold asW
    have b2 := below_alloc w1 (.cells #[.pointer (some (newA w))] 85)
    exact (((((hb1.then b2).then (below_alloc _ _)).then (below_alloc _ _)).then (below_alloc _ _))).setCell (by rw [newA_block]; omega) _
  have hcell : (asW (newA w) e w1).cell? (newA w) = some (.int .i64 0) := by
    unfold asW
    exact cell_alloc_old (cell_alloc_old (cell_alloc_old (cell_alloc_old c0)))
  exact cond_t rfl ⟨_, World.cell?_setCell_same _ _ _ hcell, rfl, h.keep hB⟩

/-! bytes of a number -/

theorem bits_or64 {a b : Nat} (ha : a < 2 ^ 64) (hb : b < 2 ^ 64) : Go.bits BinOp.or .u64 (a : Int) (b : Int) = ((a ||| b : Nat) : Int) := by
  show IntKind.u64.wrap (((BitVec.ofInt 64 (a : Int)) ||| (BitVec.ofInt 64 (b : Int))).toNat : Int) = _
  rw [BitVec.ofInt_natCast, BitVec.ofInt_natCast, BitVec.toNat_or, BitVec.toNat_ofNat, BitVec.toNat_ofNat, Nat.mod_eq_of_lt ha, Nat.mod_eq_of_lt hb, IntKind.wrap_u64]
  have := Nat.or_lt_two_pow ha hb
  omega
theorem leB_get {x n i : Nat} (h : i < n) : (leB x n)[i]? = some ((x / 256 ^ i % 256 : Nat) : Int) := by
  unfold leB
  rw [List.getElem?_map, List.getElem?_range h]
  rfl
theorem p256 (i : Nat) : (2 : Int) ^ (8 * i) = ((256 ^ i : Nat) : Int) := by
  rw [show (256 : Nat) = 2 ^ 8 from rfl, ← Nat.pow_mul]
  push_cast
  rfl

theorem low_spec {s : Sl} {x : Nat} (h : Ints .u8 w s (leB x 8)) (hx : x < 2 ^ 64) : CallsV Tryd.prog n_store_low #[.slice s.a s.len s.cap] w fun v w' => v = .int .u64 (x : Int) ∧ w' = w := by
  refine store_low.lift ?_
  have hl := h.len
  rw [leB_len] at hl
  unfold store_low.main store_low.l1
  refine ⟨fun t w' => w' = w ∧ ∃ i : Nat, t.2 = i ∧ i ≤ 8 ∧ t.1 = ((x % 256 ^ i : Nat) : Int), fun t _ => 8 - t.2.toNat, ⟨rfl, 0, rfl, by omega, by simp [Nat.mod_one]⟩, ?_⟩
  rintro ⟨a, _⟩ w' ⟨rfl, i, rfl, hi, ha⟩
  have ha : a = ((x % 256 ^ i : Nat) : Int) := ha
  subst ha
  show store_low.b1 _ _ s ((s.len : Nat) : Int) _ (i : Int) w'
  unfold store_low.b1
  refine cond_d (fun hlt => ?_) fun hge => ?_
  · obtain ⟨q, hq, hlt', hc⟩ := h.cell i _ (leB_get (by omega))
    have e8 : IntKind.i64.wrap (8 * (i : Int)) = ((8 * i : Nat) : Int) := by rw [w64 (by omega)]; omega
    have hle : x / 256 ^ i % 256 * 256 ^ i ≤ x := by
      have h1 := le_step x i
      have h2 : x / 256 ^ i % 256 * 256 ^ i ≤ x % 256 ^ i ||| (x / 256 ^ i % 256 * 256 ^ i) := Nat.right_le_or
      exact Nat.le_trans h2 (by rw [h1]; exact Nat.mod_le _ _)
    have eb : IntKind.u64.wrap (IntKind.u64.wrap ((x / 256 ^ i % 256 : Nat) : Int) * 2 ^ (min ((8 * i : Nat) : Int).toNat IntKind.u64.bits)) = ((x / 256 ^ i % 256 * 256 ^ i : Nat) : Int) := by
      have em : min ((8 * i : Nat) : Int).toNat IntKind.u64.bits = 8 * i := by
        show min ((8 * i : Nat) : Int).toNat 64 = 8 * i
        omega
      rw [em, p256]
      have e1 : IntKind.u64.wrap ((x / 256 ^ i % 256 : Nat) : Int) = ((x / 256 ^ i % 256 : Nat) : Int) := by rw [IntKind.wrap_u64]; omega
      rw [e1, ← Int.natCast_mul, IntKind.wrap_u64]
      omega
    refine ⟨by omega, by omega, q, hq, _, by rw [Int.toNat_natCast]; exact hc, by rw [e8]; omega, ?_⟩
    rw [e8, eb, bits_or64 (Nat.lt_of_le_of_lt (Nat.mod_le _ _) hx) (Nat.lt_of_le_of_lt hle hx), le_step, inc (by omega)]
    exact ⟨⟨rfl, rfl, rfl, i + 1, rfl, by omega, rfl⟩, by (try dsimp only); omega⟩
  · have : i = 8 := by omega
    subst this
    rw [show (256 : Nat) ^ 8 = 2 ^ 64 from rfl, Nat.mod_eq_of_lt hx]
    exact ⟨rfl, rfl⟩

/-! a mark's sector -/

def mkF (c s t : Nat) : List Int := (List.range 64).map fun j => if j < t then ((c / 256 ^ j % 256 : Nat) : Int) else if 8 ≤ j ∧ j < 8 + t then ((s / 256 ^ (j - 8) % 256 : Nat) : Int) else 0
theorem mkF_len (c s t : Nat) : (mkF c s t).length = 64 := by simp [mkF]
theorem mkF_zero (c s : Nat) : mkF c s 0 = List.replicate 64 0 := by
  refine List.ext_getElem (by simp [mkF]) fun j h1 h2 => ?_
  simp only [mkF, List.getElem_map, List.getElem_range, List.getElem_replicate]
  rw [if_neg (by omega), if_neg (by omega)]
theorem mkF_succ {c s t : Nat} (ht : t < 8) : ((mkF c s t).set t ((c / 256 ^ t % 256 : Nat) : Int)).set (8 + t) ((s / 256 ^ t % 256 : Nat) : Int) = mkF c s (t + 1) := by
  refine List.ext_getElem (by simp [mkF]) fun j h1 h2 => ?_
  rw [List.getElem_set, List.getElem_set]
  simp only [mkF, List.getElem_map, List.getElem_range]
  by_cases a1 : 8 + t = j
  · subst a1
    rw [if_pos rfl, if_neg (by omega), if_pos (by omega), show 8 + t - 8 = t by omega]
  · rw [if_neg a1]
    by_cases a2 : t = j
    · subst a2
      rw [if_pos rfl, if_pos (by omega)]
    · rw [if_neg a2]
      by_cases a3 : j < t
      · rw [if_pos a3, if_pos (show j < t + 1 by omega)]
      · rw [if_neg a3, if_neg (show ¬ j < t + 1 by omega)]
        by_cases a4 : 8 ≤ j ∧ j < 8 + t
        · rw [if_pos a4, if_pos (show 8 ≤ j ∧ j < 8 + (t + 1) by omega)]
        · rw [if_neg a4, if_neg (show ¬ (8 ≤ j ∧ j < 8 + (t + 1)) by omega)]
theorem mkF_all (c s : Nat) : mkF c s 8 = markB c s := by
  refine List.ext_getElem (by rw [mkF_len, markB_len]) fun j h1 h2 => ?_
  simp only [mkF, markB, leB, zer, List.getElem_map, List.getElem_range, List.getElem_append, List.length_map, List.length_range, List.length_append, List.getElem_replicate]
  by_cases a1 : j < 8
  · rw [if_pos a1, dif_pos (by omega), dif_pos a1]
  · rw [if_neg a1]
    by_cases a2 : j < 8 + 8
    · rw [if_pos (by omega), dif_pos a2, dif_neg a1]
    · rw [if_neg (by omega), dif_neg a2]
theorem u8_byte (x t : Nat) (ht : t < 8) : IntKind.u8.wrap (Int.fdiv (x : Int) (2 ^ (min ((8 * t : Nat) : Int).toNat IntKind.u64.bits))) = ((x / 256 ^ t % 256 : Nat) : Int) := by
  have em : min ((8 * t : Nat) : Int).toNat IntKind.u64.bits = 8 * t := by
    show min ((8 * t : Nat) : Int).toNat 64 = 8 * t
    omega
  rw [em, p256, Int.fdiv_eq_ediv_of_nonneg _ (Int.natCast_nonneg _), IntKind.wrap_u8, ← Int.natCast_ediv]
  omega

theorem sector_at (h : At W w L) (c s : Nat) (hs : s < 2 ^ 60) : CallsV Tryd.prog n_store_mark_sector #[.agg #[.int .u64 (c : Int), .int .i64 (s : Int)]] w fun v w' => ∃ sl : Sl, v = .slice sl.a sl.len sl.cap ∧ At W w' (byA sl (markB c s) :: L) := by
  refine store_mark_sector.lift ?_
  unfold store_mark_sector.main
  intro w3
  refine ⟨by omega, by omega, by omega, by omega, ?_⟩
  intro w4
  have h3 : At W w3 (boxA (newA w) [.int .u64 (c : Int), .int .i64 (s : Int)] :: L) := h.box _ 64
  have h4 : At W w4 (byA ⟨some (newA w3), 64, 64⟩ (mkF c s 0) :: boxA (newA w) [.int .u64 (c : Int), .int .i64 (s : Int)] :: L) := by
    rw [mkF_zero]
    exact h3.own (make_ints (n := 64) (by unfold maxLen; omega)) (below_alloc _ _)
  clear_value w4
  generalize newA w = m at h4 ⊢
  generalize newA w3 = q at h4 ⊢
  clear h3
  unfold store_mark_sector.l1
  refine ⟨fun k w' => ∃ t : Nat, k = t ∧ t ≤ 8 ∧ At W w' (byA ⟨some q, 64, 64⟩ (mkF c s t) :: boxA m [.int .u64 (c : Int), .int .i64 (s : Int)] :: L), fun k _ => 8 - k.toNat, ⟨0, rfl, by omega, h4⟩, ?_⟩
  clear h4
  rintro _ w5 ⟨t, rfl, ht, h5⟩
  unfold store_mark_sector.b1
  refine cond_d (fun hlt => ?_) fun hge => ?_
  · have e8 : IntKind.i64.wrap (8 * (t : Int)) = ((8 * t : Nat) : Int) := by rw [w64 (by omega)]; omega
    have e9 : IntKind.i64.wrap (8 + (t : Int)) = ((8 + t : Nat) : Int) := by rw [w64 (by omega)]; omega
    rw [e8, e9]
    have hd := h5.drew
    obtain ⟨wr1, h6⟩ := hd.bset 0 rfl (q := q) rfl (j := t) (by rw [mkF_len]; omega) ((c / 256 ^ t % 256 : Nat) : Int)
    have h6 : At W (w5.drew.setCell (q.add t) (.int .u8 ((c / 256 ^ t % 256 : Nat) : Int))) (byA ⟨some q, 64, 64⟩ ((mkF c s t).set t ((c / 256 ^ t % 256 : Nat) : Int)) :: boxA m [.int .u64 (c : Int), .int .i64 (s : Int)] :: L) := h6
    obtain ⟨wr2, h7⟩ := h6.bset 0 rfl (q := q) rfl (j := 8 + t) (by rw [List.length_set, mkF_len]; omega) ((s / 256 ^ t % 256 : Nat) : Int)
    have h7 : At W _ (byA ⟨some q, 64, 64⟩ (((mkF c s t).set t ((c / 256 ^ t % 256 : Nat) : Int)).set (8 + t) ((s / 256 ^ t % 256 : Nat) : Int)) :: boxA m [.int .u64 (c : Int), .int .i64 (s : Int)] :: L) := h7
    rw [mkF_succ (by omega)] at h7
    have es : IntKind.u64.wrap (s : Int) = ((s : Nat) : Int) := by rw [IntKind.wrap_u64]; omega
    refine ⟨fun u => u.cell? m = some (.int .u64 (c : Int)) ∧ u.cell? (m.add 1) = some (.int .i64 (s : Int)), ⟨hd.cell0 1 rfl, hd.cell 1 rfl 1 rfl⟩, _, fun u hu => hu.1, by omega, _, fun u hu => hu.2, by omega, by omega, by show (t : Int) < ((64 : Nat) : Int); omega, q, rfl, ?_⟩
    rw [es, u8_byte c t (by omega), u8_byte s t (by omega)]
    rw [Int.toNat_natCast t, Int.toNat_natCast (8 + t)]
    refine ⟨wr1, ⟨h6.cell0 1 rfl, h6.cell 1 rfl 1 rfl⟩, by omega, by show ((8 + t : Nat) : Int) < ((64 : Nat) : Int); omega, q, rfl, ?_⟩
    have ei : ixOff (8 + t) 1 = 8 + t := by simp [ixOff]
    rw [ei]
    refine ⟨wr2, ?_⟩
    rw [inc (by omega)]
    exact ⟨⟨rfl, rfl, t + 1, rfl, by omega, h7⟩, by (try dsimp only); omega⟩
  · have : t = 8 := by omega
    subst this
    rw [mkF_all] at h5
    exact ⟨⟨some q, 64, 64⟩, rfl, h5.less 1 rfl⟩

theorem place_spec (c k : Nat) (hk : k ≤ 1000) : CallsV Tryd.prog n_store_place #[.int .u64 (c : Int), .int .i64 (k : Int)] w fun v w' => v = .int .i64 ((base c + k : Nat) : Int) ∧ w' = w := by
  refine store_place.lift ?_
  unfold store_place.main
  refine ⟨by omega, ?_⟩
  have e : Int.tmod (c : Int) 2 = ((c % 2 : Nat) : Int) := by rw [tmod_nn (by omega)]; omega
  have hc : c % 2 < 2 := Nat.mod_lt _ (by omega)
  rw [e, w64 (n := ((c % 2 : Nat) : Int)) (by omega), w64 (n := ((c % 2 : Nat) : Int) * 125) (by omega), w64 (n := 2 + ((c % 2 : Nat) : Int) * 125) (by omega), w64 (by omega)]
  refine ⟨?_, rfl⟩
  show Value.int .i64 _ = .int .i64 _
  congr 1
end

end Go.Proofs.YtledhokhcoeeeaaDoor

/-
  A store: the mark that counts; the state that it tells of.
-/
set_option linter.unusedVariables false
set_option linter.unusedSimpArgs false
namespace Go.Proofs.YtledhokhcoeeeaaDoor
open Go.Lf Go.RowKit

/-! what is read of a disk -/

theorem readD_at {st : DS} (hp : st.pend = []) (ho : st.off = false) {i : Nat} (hi : i < st.safe.length) : readD st (i : Int) = match st.safe[i]?.getD none with | none => ([], 10) | some b => (b, 0) := by
  have hw : wrongD st (i : Int) = 0 := by
    unfold wrongD
    rw [if_neg (by rw [ho]; simp), if_neg (by omega)]
  unfold readD
  rw [if_neg (fun hh => hh hw), hp, Int.toNat_natCast]
  rfl
theorem readD_mark {st : DS} {c : Nat} {S : List Int} (hH : Holds st.safe c S) (hp : st.pend = []) (ho : st.off = false) {k : Nat} (hk : k < 2) :
    (readD st (k : Int) = ([], 10) ∧ (c = 0 ∨ k ≠ c % 2)) ∨ ∃ c' s', readD st (k : Int) = (markB c' s', 0) ∧ s' ≤ 8000 ∧ c' ≤ c ∧ ((0 < c ∧ k = c % 2 ∧ c' = c ∧ s' = S.length) ∨ ((c = 0 ∨ k ≠ c % 2) ∧ (c' < c ∨ c' = 0))) := by
  have hl := hH.len
  rw [readD_at hp ho (i := k) (by omega)]
  by_cases hc : 0 < c ∧ k = c % 2
  · obtain ⟨hc, rfl⟩ := hc
    rw [hH.own hc]
    exact .inr ⟨c, S.length, rfl, hH.few, Nat.le_refl _, .inl ⟨hc, rfl, rfl, rfl⟩⟩
  · have hc' : c = 0 ∨ k ≠ c % 2 := by omega
    rcases (hH.oth k hk hc').ok with h | ⟨c', s', h, h1, h2⟩
    · rw [h]
      exact .inl ⟨rfl, hc'⟩
    · rw [h]
      exact .inr ⟨c', s', rfl, h2, by omega, .inr ⟨hc', h1⟩⟩

section
variable {W w w' : World} {L L' R X : List Asn} {d p a out : Addr} {st : DS} {V : Value} {c : Nat} {S : List Int}

theorem dread_at (h : At W w (diskA d st :: R)) (i : Int) : CallsV Tryd.prog n_disk_Disk_Read #[.pointer (some d), .int .i64 i] w fun v w' => ∃ s : Sl, v = .tuple #[.slice s.a s.len s.cap, .int .i64 (readD st i).2] ∧ At W w' (byA s (readD st i).1 :: diskA d st :: R) := by
  refine (read_spec h.s i).mono ?_
  rintro _ w' ⟨s, rfl, _, hs, hb⟩
  exact ⟨s, rfl, h.go hs (hb.mono h.s.le)⟩

theorem _root_.Go.Proofs.YtledhokhcoeeeaaDoor.sub_ints {k : IntKind} {s : Sl} {xs : List Int} (h : Ints k w s xs) {m n : Nat} (hm : m < s.cap) (hn : n ≤ xs.length) (hmn : m ≤ n) :
    Ints k w ⟨if s.cap = m then s.a else s.a.map (·.add m), n - m, s.cap - m⟩ ((xs.drop m).take (n - m)) := by
  have hl := h.len
  have hsm := h.small
  refine ⟨by simp; omega, by show n - m ≤ _; omega, fun i x hx => ?_⟩
  rw [List.getElem?_take] at hx
  split at hx
  · rw [List.getElem?_drop] at hx
    obtain ⟨q, hq, hlt, hc⟩ := h.cell (m + i) x hx
    refine ⟨q.add m, ?_, by rw [add_block]; exact hlt, by rw [add_add]; exact hc⟩
    show (if s.cap = m then s.a else s.a.map (·.add m)) = _
    rw [if_neg (by omega), hq]; rfl
  · cases hx

theorem markB_low (c s : Nat) : ((markB c s).drop 0).take 8 = leB c 8 ∧ ((markB c s).drop 8).take 8 = leB s 8 := by
  unfold markB
  constructor
  · rw [List.drop_zero, List.append_assoc, List.take_append_of_le_length (by rw [leB_len]; omega), List.take_of_length_le (by rw [leB_len]; omega)]
  · rw [List.append_assoc, List.drop_append_of_le_length (by rw [leB_len]; omega), List.drop_of_length_le (by rw [leB_len]; omega), List.nil_append, List.take_append_of_le_length (by rw [leB_len]; omega), List.take_of_length_le (by rw [leB_len]; omega)]

/-- a mark counts, or not -/
theorem last_tail {k oc os c' s' : Nat} {N : World → Prop} (h : At W w (boxA a [.int .u64 (c' : Int), .int .i64 (s' : Int)] :: diskA d st :: boxA out [.int .u64 (oc : Int), .int .i64 (os : Int)] :: X)) (hk : k < 2)
    (hN1 : oc < c' → c' % 2 = k → ∀ w', At W w' (diskA d st :: boxA out [.int .u64 (c' : Int), .int .i64 (s' : Int)] :: X) → N w') (hN0 : ¬ (oc < c' ∧ c' % 2 = k) → ∀ w', At W w' (diskA d st :: boxA out [.int .u64 (oc : Int), .int .i64 (os : Int)] :: X) → N w') :
    ∃ x1 : Int, w.cell? a = some (.int .u64 x1) ∧ ∃ x2 : Int, w.cell? out = some (.int .u64 x2) ∧ cond (decide ((x1 : Int) > x2))
      (∃ x3 : Int, w.cell? a = some (.int .u64 x3) ∧ (2 : Int) ≠ 0 ∧ cond (((Int.tmod x3 2) : Int) == (IntKind.u64.wrap (k : Int)))
        (∃ x4 : Int, w.cell? a = some (.int .u64 x4) ∧ ∃ x5 : Int, w.cell? (a.add 1) = some (.int .i64 x5) ∧ (∀ j, j < 2 → Wr w (out.add j)) ∧ (let w1 := setCells out [.int .u64 x4, .int .i64 x5] 0 w; N w1))
        (N w)) (N w) := by
  have c0 := h.cell0 0 rfl
  have c1 := h.cell 0 rfl 1 rfl
  have o0 := h.cell0 2 rfl
  refine ⟨_, c0, _, o0, cond_d (fun hgt => ?_) fun hle => hN0 (by omega) _ h.drop⟩
  have e : Int.tmod (c' : Int) 2 = ((c' % 2 : Nat) : Int) := by rw [tmod_nn (by omega)]; omega
  have ek : IntKind.u64.wrap (k : Int) = k := by rw [IntKind.wrap_u64]; omega
  refine ⟨_, c0, by omega, ?_⟩
  rw [e, ek]
  refine cond_e (fun he => ?_) fun he => hN0 (by omega) _ h.drop
  obtain ⟨wr, h2⟩ := h.set2 2 rfl (.int .u64 (c' : Int)) (.int .i64 (s' : Int))
  exact ⟨_, c0, _, c1, wr, hN1 (by omega) (by omega) _ h2.drop⟩

def LastQ (c : Nat) (S : List Int) (k oc os : Nat) : Prop := (c = 0 → oc = 0 ∧ os = 0) ∧ (0 < c → if c % 2 < k then oc = c ∧ os = S.length else oc < c)

set_option maxRecDepth 100000 in
/-- the mark that counts -/
theorem last_at (hH : Holds st.safe c S) (hp : st.pend = []) (ho : st.off = false) (hc : c < 2 ^ 40) (h : At W w (diskA d st :: boxA p [.pointer (some d), V] :: R)) :
    CallsV Tryd.prog n_store_Store_last #[.pointer (some p)] w fun v w' => v = .tuple #[.agg #[.int .u64 (c : Int), .int .i64 (S.length : Int)], .nilIface] ∧ At W w' (diskA d st :: boxA p [.pointer (some d), V] :: R) := by
  refine store_Store_last.lift ?_
  unfold store_Store_last.main
  intro w20 w21
  have h20 := h.box [.int .u64 0, .int .i64 0] 64
  have h21 : At W w21 (boxA (newA w20) [.int .u64 0, .int .i64 0] :: boxA (newA w) [.int .u64 0, .int .i64 0] :: diskA d st :: boxA p [.pointer (some d), V] :: R) := At.box h20 [.int .u64 0, .int .i64 0] 64
  have h22 : At W w21 (diskA d st :: boxA (newA w20) [.int .u64 ((0 : Nat) : Int), .int .i64 ((0 : Nat) : Int)] :: boxA (newA w) [.int .u64 0, .int .i64 0] :: boxA p [.pointer (some d), V] :: R) := h21.front 2 rfl
  clear_value w21
  generalize newA w20 = out at h22 ⊢
  generalize newA w = t2 at h22 ⊢
  clear h20 h21
  unfold store_Store_last.l2
  refine ⟨fun t w' => ∃ k oc os : Nat, t = k ∧ k ≤ 2 ∧ LastQ c S k oc os ∧ At W w' (diskA d st :: boxA out [.int .u64 (oc : Int), .int .i64 (os : Int)] :: boxA t2 [.int .u64 0, .int .i64 0] :: boxA p [.pointer (some d), V] :: R), fun t _ => 2 - t.toNat,
    ⟨0, 0, 0, rfl, by omega, ⟨fun _ => ⟨rfl, rfl⟩, fun hc => by rw [if_neg (by omega)]; exact hc⟩, h22⟩, ?_⟩
  clear h22 h
  rintro _ w1 ⟨k, oc, os, rfl, hk, hQ, h1⟩
  unfold store_Store_last.b2
  refine cond_d (fun hlt => ?_) fun hge => ?_
  · have hk2 : k < 2 := by omega
    -- what comes next
    have next : ∀ oc' os' w', LastQ c S (k + 1) oc' os' → At W w' (diskA d st :: boxA out [.int .u64 (oc' : Int), .int .i64 (os' : Int)] :: boxA t2 [.int .u64 0, .int .i64 0] :: boxA p [.pointer (some d), V] :: R) →
        (fun (s0' : Option Addr) (t2' out4' : Addr) (t10' : Int) w' => (s0' = some p ∧ t2' = t2 ∧ out4' = out ∧ (fun (t : Int) w' => ∃ k oc os : Nat, t = k ∧ k ≤ 2 ∧ LastQ c S k oc os ∧ At W w' (diskA d st :: boxA out [.int .u64 (oc : Int), .int .i64 (os : Int)] :: boxA t2 [.int .u64 0, .int .i64 0] :: boxA p [.pointer (some d), V] :: R)) t10' w') ∧ (fun (t : Int) (_ : World) => 2 - t.toNat) t10' w' < (fun (t : Int) (_ : World) => 2 - t.toNat) (k : Int) w1) (some p) t2 out (IntKind.i64.wrap ((k : Int) + 1)) w' := by
      intro oc' os' w' hQ' h'
      rw [inc (by omega)]
      exact ⟨⟨rfl, rfl, rfl, k + 1, oc', os', rfl, by omega, hQ', h'⟩, by (try dsimp only); omega⟩
    refine ⟨p, rfl, _, h1.cell0 3 rfl, ?_⟩
    refine (dread_at h1 (k : Int)).mono ?_
    rintro _ w2 ⟨s, rfl, h2⟩
    refine ⟨_, _, _, _, rfl, (wrap_at h2 _ _).mono ?_⟩
    intro v w3 h3
    refine ⟨_, rfl, (is_at h3 0 rfl).mono ?_⟩
    rintro _ _ ⟨rfl, rfl⟩
    have hnil := h3.errNil 0 rfl
    rcases readD_mark hH hp ho hk2 with ⟨hr, hne⟩ | ⟨c', s', hr, hs', hcc, hcase⟩
    · rw [hr]
      refine ⟨_, rfl, cond_t rfl (next oc os _ ⟨hQ.1, fun hc0 => ?_⟩ h3.drop.drop)⟩
      have := hQ.2 hc0
      by_cases hlt2 : c % 2 < k
      · rw [if_pos hlt2] at this
        rw [if_pos (by omega)]
        exact this
      · rw [if_neg hlt2] at this
        rw [if_neg (by omega)]
        exact this
    · rw [hr] at h3 hnil ⊢
      refine ⟨_, rfl, cond_f' rfl ⟨_, hnil, cond_f' rfl ?_⟩⟩
      have hd := h3.drop.drew
      have hlen := hd.len 0 rfl
      rw [markB_len] at hlen
      have hcap := hd.bcap 0 rfl
      have hB := hd.bytes 0 rfl (by rw [markB_len]; omega)
      obtain ⟨m1, m2⟩ := markB_low c' s'
      have i1 := sub_ints hB (m := 0) (n := 8) (by omega) (by rw [markB_len]; omega) (by omega)
      have i2 := sub_ints hB (m := 8) (n := 16) (by omega) (by rw [markB_len]; omega) (by omega)
      rw [m1] at i1
      rw [m2] at i2
      have e8 : IntKind.i64.wrap (if (8000 : Int) < ((s' : Nat) : Int) then 8000 else ((s' : Nat) : Int)) = ((s' : Nat) : Int) := by rw [if_neg (by omega), w64 (by omega)]
      have step1 : oc < c' → c' % 2 = k → LastQ c S (k + 1) c' s' := by
        intro a1 a2
        refine ⟨fun hc0 => by omega, fun hc0 => ?_⟩
        rcases hcase with ⟨_, b1, b2, b3⟩ | ⟨b1, b2⟩
        · rw [if_pos (by omega)]; exact ⟨b2, b3⟩
        · have hq := hQ.2 hc0
          by_cases hlt2 : c % 2 < k
          · rw [if_pos hlt2] at hq; omega
          · rw [if_neg (by omega)]; omega
      have step0 : ¬ (oc < c' ∧ c' % 2 = k) → LastQ c S (k + 1) oc os := by
        intro a1
        refine ⟨hQ.1, fun hc0 => ?_⟩
        have hq := hQ.2 hc0
        by_cases hlt2 : c % 2 < k
        · rw [if_pos hlt2] at hq
          rw [if_pos (by omega)]; exact hq
        · rw [if_neg hlt2] at hq
          rcases hcase with ⟨_, b1, b2, b3⟩ | ⟨b1, b2⟩
          · omega
          · rw [if_neg (by omega)]; exact hq
      have tail : ∀ a w', At W w' (boxA a [.int .u64 (c' : Int), .int .i64 (s' : Int)] :: diskA d st :: boxA out [.int .u64 (oc : Int), .int .i64 (os : Int)] :: boxA t2 [.int .u64 0, .int .i64 0] :: boxA p [.pointer (some d), V] :: R) → _ := fun a w' h' =>
        last_tail (k := k) h' hk2 (fun a1 a2 w' h' => next c' s' w' (step1 a1 a2) h') (fun a1 w' h' => next oc os w' (step0 a1) h')
      have hx1 : c' < 2 ^ 64 := by omega
      have hx2 : s' < 2 ^ 64 := by omega
      refine ⟨fun _ => True, trivial, by omega, by omega, by omega, by omega, by omega, by omega, by omega, by omega, ?_, ?_⟩
      · refine (low_spec (s := ⟨_, _, _⟩) i1 hx1).mono ?_
        rintro _ _ ⟨rfl, rfl⟩
        refine ⟨_, rfl, ?_, ?_⟩
        · refine (low_spec (s := ⟨_, _, _⟩) i2 hx2).mono ?_
          rintro _ _ ⟨rfl, rfl⟩
          refine ⟨_, rfl, ?_⟩
          intro w8
          have h8 := hd.drop.box [.int .u64 0, .int .i64 0] 64
          obtain ⟨wr, h9⟩ := h8.set2 0 rfl (.int .u64 (c' : Int)) (.int .i64 (s' : Int))
          refine ⟨wr, ?_⟩
          rw [e8]
          exact tail _ _ h9
        · intro w8
          have h8 := hd.box [.int .u64 0, .int .i64 0] 64
          refine (low_spec (s := ⟨_, _, _⟩) (i2.keep (below_alloc _ _)) hx2).mono ?_
          rintro _ _ ⟨rfl, rfl⟩
          refine ⟨_, rfl, ?_⟩
          obtain ⟨wr, h9⟩ := h8.set2 0 rfl (.int .u64 (c' : Int)) (.int .i64 (s' : Int))
          refine ⟨wr, ?_⟩
          rw [e8]
          exact tail _ _ (h9.less 1 rfl)
      · intro w8
        have h8 := hd.box [.int .u64 0, .int .i64 0] 64
        refine (low_spec (s := ⟨_, _, _⟩) (i1.keep (below_alloc _ _)) hx1).mono ?_
        rintro _ _ ⟨rfl, rfl⟩
        refine ⟨_, rfl, (low_spec (s := ⟨_, _, _⟩) (i2.keep (below_alloc _ _)) hx2).mono ?_⟩
        rintro _ _ ⟨rfl, rfl⟩
        refine ⟨_, rfl, ?_⟩
        obtain ⟨wr, h9⟩ := h8.set2 0 rfl (.int .u64 (c' : Int)) (.int .i64 (s' : Int))
        refine ⟨wr, ?_⟩
        rw [e8]
        exact tail _ _ (h9.less 1 rfl)
  · have : k = 2 := by omega
    subst this
    have e : oc = c ∧ os = S.length := by
      by_cases hc0 : c = 0
      · obtain ⟨a1, a2⟩ := hQ.1 hc0
        exact ⟨by omega, by rw [hH.nil hc0, a2]; rfl⟩
      · have := hQ.2 (by omega)
        rw [if_pos (Nat.mod_lt _ (by omega))] at this
        exact this
    obtain ⟨rfl, rfl⟩ := e
    unfold store_Store_last.c1
    obtain ⟨wr, h2⟩ := h1.set2 2 rfl (.int .u64 (oc : Int)) (.int .i64 (S.length : Int))
    refine ⟨_, h1.cell0 1 rfl, _, h1.cell 1 rfl 1 rfl, wr, _, h2.cell0 2 rfl, _, h2.cell 2 rfl 1 rfl, rfl, ?_⟩
    exact (h2.less 2 rfl).less 1 rfl
end

end Go.Proofs.YtledhokhcoeeeaaDoor
