/-
  An epoch's keys: contracts, the program's and the page's.
-/
import Derived.Test.YtoclhecldmahiaaDoorScA
import Derived.Test.YtoclhecldmahiaaDoorScFns
set_option linter.unusedVariables false
set_option linter.unusedVariables false
set_option linter.unusedSimpArgs false
namespace Go.Proofs.YtoclhecldmahiaaDoor
open Go.Lf Go.RowKit

section
variable {W w : World} {L R : List Asn} {p mk : Addr} {T : List Tm}

/-- the maker -/
abbrev mkA (mk a : Addr) (e : Int) : Asn := boxA mk [.pointer (some a), .int .i64 e]

theorem maker_on (h : At W w (mkA mk p 0 :: arT p T :: R)) {t : Tm} {s : Sl} (hn : t.n ≤ 9223372036854775807) (hI : ∀ X w', Sep W.heap.size w' (X :: mkA mk p 0 :: R) → Below W.heap.size w w' → Ints .i64 w' s t.args) :
    CallsV Tryd.prog n_sched_maker_make #[.pointer (some mk), .int .i64 t.kind, .int .i64 t.n, .slice s.a s.len s.cap] w fun v w' => v = .int .i64 (put T t).2.1 ∧ At W w' (mkA mk p (put T t).2.2 :: arT p (put T t).1 :: R) := by
  refine sched_maker_make.lift ?_
  unfold sched_maker_make.main
  refine ⟨mk, rfl, _, h.s.cell 0 rfl 1 rfl, cond_n (fun h => absurd rfl h) fun _ => ⟨mk, rfl, _, h.s.cell0 0 rfl rfl, ?_⟩⟩
  refine (make_at (h.swap) hn hI).mono ?_
  rintro _ w1 ⟨rfl, h1⟩
  have h2 := h1.swap
  obtain ⟨h3, hb3⟩ := h2.s.set 0 rfl (j := 1) (by simp) (.int .i64 (put T t).2.2)
  exact ⟨_, _, rfl, mk, rfl, h2.s.wr 0 rfl (j := 1) (by simp), rfl, h2.go h3 hb3⟩

theorem maker_off {e : Int} (he : e ≠ 0) (k n : Int) (s : Sl) (h : At W w (mkA mk p e :: R)) :
    CallsV Tryd.prog n_sched_maker_make #[.pointer (some mk), .int .i64 k, .int .i64 n, .slice s.a s.len s.cap] w fun v w' => v = .int .i64 0 ∧ At W w' (mkA mk p e :: R) := by
  refine sched_maker_make.lift ?_
  unfold sched_maker_make.main
  exact ⟨mk, rfl, _, h.s.cell 0 rfl 1 rfl, cond_n (fun _ => ⟨rfl, h⟩) fun h => absurd h he⟩

theorem maker0 (k n : Int) (h : At W w (mkA mk p 0 :: arT p T :: R)) (hn : n ≤ 9223372036854775807) :
    CallsV Tryd.prog n_sched_maker_make #[.pointer (some mk), .int .i64 k, .int .i64 n, .slice none 0 0] w fun v w' => v = .int .i64 (put T ⟨k, n, []⟩).2.1 ∧ At W w' (mkA mk p (put T ⟨k, n, []⟩).2.2 :: arT p (put T ⟨k, n, []⟩).1 :: R) :=
  maker_on (t := ⟨k, n, []⟩) (s := ⟨none, 0, 0⟩) h hn fun _ _ _ _ => Ints.nil

theorem makerN (k n : Int) (args : List Int) (h : At W w (mkA mk p 0 :: arT p T :: R)) (hn : n ≤ 9223372036854775807) (hl : args.length ≤ 1000000000) :
    CallsV Tryd.prog n_sched_maker_make #[.pointer (some mk), .int .i64 k, .int .i64 n, .slice (some (newA w)) args.length args.length] (w.alloc (.cells (args.map (Value.int .i64)).toArray 3)) fun v w' =>
      v = .int .i64 (put T ⟨k, n, args⟩).2.1 ∧ At W w' (mkA mk p (put T ⟨k, n, args⟩).2.2 :: arT p (put T ⟨k, n, args⟩).1 :: R) := by
  have h1 : At W _ (mkA mk p 0 :: arT p T :: ownA ⟨some (newA w), args.length, args.length⟩ args :: R) := ((h.row args hl).front 2 rfl).front 2 rfl
  refine (maker_on (t := ⟨k, n, args⟩) (s := ⟨some (newA w), args.length, args.length⟩) h1 hn fun X w' hs _ => rowNow 2 rfl hs (by show args.length ≤ _; omega)).mono ?_
  rintro _ w' ⟨rfl, h2⟩
  exact ⟨rfl, ((h2.front 2 rfl).drop)⟩

theorem makerOff (k n : Int) (args : List Int) {e : Int} (he : e ≠ 0) (h : At W w (mkA mk p e :: R)) (hl : args.length ≤ 1000000000) :
    CallsV Tryd.prog n_sched_maker_make #[.pointer (some mk), .int .i64 k, .int .i64 n, .slice (some (newA w)) args.length args.length] (w.alloc (.cells (args.map (Value.int .i64)).toArray 3)) fun v w' =>
      v = .int .i64 0 ∧ At W w' (mkA mk p e :: R) := by
  refine (maker_off he k n ⟨some (newA w), args.length, args.length⟩ (h.row args hl).swap).mono ?_
  rintro _ w' ⟨rfl, h2⟩
  exact ⟨rfl, h2.swap.drop⟩

theorem maker_done {e : Int} (i : Int) (h : At W w (mkA mk p e :: R)) :
    CallsV Tryd.prog n_sched_maker_done #[.pointer (some mk), .int .i64 i] w fun v w' => v = .tuple #[.int .i64 (if e ≠ 0 then 0 else i), .int .i64 e] ∧ At W w' R := by
  refine sched_maker_done.lift ?_
  unfold sched_maker_done.main
  refine ⟨mk, rfl, _, h.s.cell 0 rfl 1 rfl, cond_n (fun he => ⟨mk, rfl, _, h.s.cell 0 rfl 1 rfl, by rw [if_pos he], h.drew.drop⟩) fun he => ⟨by rw [if_neg (fun h => h he), he], h.drop⟩⟩

/-- a maker -/
theorem At.maker (h : At W w R) : At W (w.alloc (.cells #[.pointer (some p), .int .i64 0] 151)) (mkA (newA w) p 0 :: R) := by
  obtain ⟨hs, hb⟩ := h.s.box [.pointer (some p), .int .i64 0] 151
  exact h.go hs hb

theorem done_put {t : Tm} : (if (put T t).2.2 ≠ 0 then 0 else (put T t).2.1) = (put T t).2.1 := by
  split
  · rename_i h; rw [(put_err0 h).1]
  · rfl

theorem hash_at (xs : List Int) {s : Sl} (h : At W w (arT p T :: R)) (k : Nat) (hk : R[k]? = some (ownA s xs)) (hl : xs.length ≤ 1000000) :
    CallsV Tryd.prog n_sched_hash #[.pointer (some p), .slice s.a s.len s.cap] w fun v w' => v = .tuple #[.int .i64 (put T ⟨3, 0, xs⟩).2.1, .int .i64 (put T ⟨3, 0, xs⟩).2.2] ∧ At W w' (arT p (put T ⟨3, 0, xs⟩).1 :: R) := by
  refine sched_hash.lift ?_
  unfold sched_hash.main
  intro w1
  refine (maker_on (t := ⟨3, 0, xs⟩) (s := s) h.maker (by simp) fun X w' hs _ => rowNow (k + 2) (by rw [List.getElem?_cons_succ, List.getElem?_cons_succ]; exact hk) hs (by show xs.length ≤ _; omega)).mono ?_
  rintro _ w2 ⟨rfl, h2⟩
  refine ⟨_, rfl, (maker_done _ h2).mono ?_⟩
  rintro _ w3 ⟨rfl, h3⟩
  refine ⟨_, _, rfl, ?_, h3⟩
  rw [done_put]

theorem kdf_at (s n : Int) (h : At W w (arT p T :: R)) (hn : n ≤ 9223372036854775807) :
    CallsV Tryd.prog n_sched_kdf #[.pointer (some p), .int .i64 s, .int .i64 n] w fun v w' => v = .tuple #[.int .i64 (put T ⟨4, n, [s]⟩).2.1, .int .i64 (put T ⟨4, n, [s]⟩).2.2] ∧ At W w' (arT p (put T ⟨4, n, [s]⟩).1 :: R) := by
  refine sched_kdf.lift ?_
  unfold sched_kdf.main
  intro w1 w2
  refine (makerN 4 n [s] h.maker hn (by simp)).mono ?_
  rintro _ w3 ⟨rfl, h3⟩
  refine ⟨_, rfl, (maker_done _ h3).mono ?_⟩
  rintro _ w4 ⟨rfl, h4⟩
  refine ⟨_, _, rfl, ?_, h4⟩
  rw [done_put]

theorem joiner_at (x y : Int) (h : At W w (arT p T :: R)) :
    CallsV Tryd.prog n_sched_Joiner #[.pointer (some p), .int .i64 x, .int .i64 y] w fun v w' => v = .tuple #[.int .i64 (put T ⟨3, 0, [x, y]⟩).2.1, .int .i64 (put T ⟨3, 0, [x, y]⟩).2.2] ∧ At W w' (arT p (put T ⟨3, 0, [x, y]⟩).1 :: R) := by
  refine sched_Joiner.lift ?_
  unfold sched_Joiner.main
  intro w1
  refine (hash_at [x, y] (h.row [x, y] (by simp)).swap 0 rfl (by simp)).mono ?_
  rintro _ w' ⟨rfl, h2⟩
  exact ⟨_, _, rfl, rfl, h2.swap.drop⟩
theorem secret_at (x y z : Int) (h : At W w (arT p T :: R)) :
    CallsV Tryd.prog n_sched_Secret #[.pointer (some p), .int .i64 x, .int .i64 y, .int .i64 z] w fun v w' => v = .tuple #[.int .i64 (put T ⟨3, 0, [x, y, z]⟩).2.1, .int .i64 (put T ⟨3, 0, [x, y, z]⟩).2.2] ∧ At W w' (arT p (put T ⟨3, 0, [x, y, z]⟩).1 :: R) := by
  refine sched_Secret.lift ?_
  unfold sched_Secret.main
  intro w1
  refine (hash_at [x, y, z] (h.row [x, y, z] (by simp)).swap 0 rfl (by simp)).mono ?_
  rintro _ w' ⟨rfl, h2⟩
  exact ⟨_, _, rfl, rfl, h2.swap.drop⟩
theorem history_at (x y : Int) (h : At W w (arT p T :: R)) :
    CallsV Tryd.prog n_sched_History #[.pointer (some p), .int .i64 x, .int .i64 y] w fun v w' => v = .tuple #[.int .i64 (put T ⟨3, 0, [x, y]⟩).2.1, .int .i64 (put T ⟨3, 0, [x, y]⟩).2.2] ∧ At W w' (arT p (put T ⟨3, 0, [x, y]⟩).1 :: R) := by
  refine sched_History.lift ?_
  unfold sched_History.main
  intro w1
  refine (hash_at [x, y] (h.row [x, y] (by simp)).swap 0 rfl (by simp)).mono ?_
  rintro _ w' ⟨rfl, h2⟩
  exact ⟨_, _, rfl, rfl, h2.swap.drop⟩
theorem first_at (x : Int) (h : At W w (arT p T :: R)) :
    CallsV Tryd.prog n_sched_First #[.pointer (some p), .int .i64 x] w fun v w' => v = .tuple #[.int .i64 (put T ⟨3, 0, [x]⟩).2.1, .int .i64 (put T ⟨3, 0, [x]⟩).2.2] ∧ At W w' (arT p (put T ⟨3, 0, [x]⟩).1 :: R) := by
  refine sched_First.lift ?_
  unfold sched_First.main
  intro w1
  refine (hash_at [x] (h.row [x] (by simp)).swap 0 rfl (by simp)).mono ?_
  rintro _ w' ⟨rfl, h2⟩
  exact ⟨_, _, rfl, rfl, h2.swap.drop⟩
theorem start_at (x : Int) (h : At W w (arT p T :: R)) :
    CallsV Tryd.prog n_sched_Start #[.pointer (some p), .int .i64 x] w fun v w' => v = .tuple #[.int .i64 (put T ⟨4, 21, [x]⟩).2.1, .int .i64 (put T ⟨4, 21, [x]⟩).2.2] ∧ At W w' (arT p (put T ⟨4, 21, [x]⟩).1 :: R) := by
  refine sched_Start.lift ?_
  unfold sched_Start.main
  refine (kdf_at x 21 h (by omega)).mono ?_
  rintro _ w' ⟨rfl, h2⟩
  exact ⟨_, _, rfl, rfl, h2⟩
theorem register_at (x : Int) (h : At W w (arT p T :: R)) :
    CallsV Tryd.prog n_sched_Register #[.pointer (some p), .int .i64 x] w fun v w' => v = .tuple #[.int .i64 (put T ⟨4, 25, [x]⟩).2.1, .int .i64 (put T ⟨4, 25, [x]⟩).2.2] ∧ At W w' (arT p (put T ⟨4, 25, [x]⟩).1 :: R) := by
  refine sched_Register.lift ?_
  unfold sched_Register.main
  refine (kdf_at x 25 h (by omega)).mono ?_
  rintro _ w' ⟨rfl, h2⟩
  exact ⟨_, _, rfl, rfl, h2⟩

/-! of more than one step -/

def tagP (T : List Tm) (s h : Int) : List Tm × Int :=
  let q := put (put T ⟨4, 22, [s]⟩).1 ⟨3, 0, [(put T ⟨4, 22, [s]⟩).2.1, h]⟩
  (q.1, q.2.1)
def chainP (T : List Tm) (s i : Int) : List Tm × Int :=
  let p := put T ⟨4, 23, [s]⟩
  let q := put p.1 ⟨2, i, []⟩
  let r := put q.1 ⟨3, 0, [p.2.1, q.2.1]⟩
  (r.1, r.2.1)
def meetP (T : List Tm) (s i j n : Int) : List Tm × Int :=
  let p := put T ⟨4, 24, [s]⟩
  let q := put p.1 ⟨2, if j < i then j else i, []⟩
  let r := put q.1 ⟨2, if j > i then j else i, []⟩
  let t := put r.1 ⟨2, n, []⟩
  let u := put t.1 ⟨3, 0, [p.2.1, q.2.1, r.2.1, t.2.1]⟩
  (u.1, u.2.1)

def isLeaf (i : Int) : Prop := 0 ≤ i ∧ i < 8
instance (i : Int) : Decidable (isLeaf i) := by unfold isLeaf; infer_instance

theorem leaf_new (xs : List Int) (h : At W w R) (hx : xs.length ≤ 1000000) :
    CallsV Tryd.prog n_sched_leaf #[.slice (some (newA w)) xs.length xs.length] (w.alloc (.cells (xs.map (Value.int .i64)).toArray 3)) fun v w' => v = .bool (decide (∀ x ∈ xs, isLeaf x)) ∧ At W w' R := by
  have h1 := h.row xs (by omega)
  refine sched_leaf.lift (l0 := ⟨some (newA w), xs.length, xs.length⟩) ?_
  unfold sched_leaf.main sched_leaf.l1
  refine ⟨fun t w' => ∃ k : Nat, t = k ∧ k ≤ xs.length ∧ (∀ x ∈ xs.take k, isLeaf x) ∧ At W w' (ownA ⟨some (newA w), xs.length, xs.length⟩ xs :: R), fun t _ => xs.length - t.toNat, ⟨0, rfl, Nat.zero_le _, by simp, h1⟩, ?_⟩
  rintro _ w2 ⟨k, rfl, hk, hall, h2⟩
  unfold sched_leaf.b1
  refine cond_d (p := ((k : Nat) : Int) < ((xs.length : Nat) : Int)) (fun hlt => ?_) fun hge => ?_
  · have hk' : k < xs.length := by omega
    obtain ⟨q, hq, hc⟩ := h2.num 0 rfl hk'
    have bad : ¬ isLeaf xs[k] → ¬ ∀ x ∈ xs, isLeaf x := fun hn h => hn (h _ (List.getElem_mem hk'))
    refine ⟨by omega, hlt, q, hq, _, by rw [Int.toNat_natCast]; exact hc, cond_d (fun h0 => ?_) fun h0 => cond_d (fun h8 => ?_) fun h8 => ?_⟩
    · exact ⟨by rw [decide_eq_false (bad (by unfold isLeaf; omega))], h2.drop⟩
    · exact ⟨by rw [decide_eq_false (bad (by unfold isLeaf; omega))], h2.drop⟩
    · rw [inc (by omega)]
      refine ⟨⟨rfl, rfl, k + 1, rfl, by omega, ?_, h2⟩, by (try dsimp only); omega⟩
      intro x hx
      rw [List.take_succ_eq_append_getElem hk', List.mem_append, List.mem_singleton] at hx
      rcases hx with hx | rfl
      · exact hall x hx
      · unfold isLeaf; omega
  · rw [List.take_of_length_le (by omega)] at hall
    exact ⟨by rw [decide_eq_true hall], h2.drop⟩

theorem tag_at (s x : Int) (h : At W w (arT p T :: R)) (hl : T.length ≤ 1000000) :
    CallsV Tryd.prog n_sched_Tag #[.pointer (some p), .int .i64 s, .int .i64 x] w fun v w' => (inT T s ∧ inT T x → v = .tuple #[.int .i64 (tagP T s x).2, .int .i64 0] ∧ At W w' (arT p (tagP T s x).1 :: R)) ∧
      (¬ (inT T s ∧ inT T x) → v = .tuple #[.int .i64 0, .int .i64 8] ∧ At W w' (arT p T :: R)) := by
  refine sched_Tag.lift ?_
  unfold sched_Tag.main
  intro w1
  refine (has_new [s, x] h (by simp)).mono ?_
  rintro _ w2 ⟨rfl, h2⟩
  have hin : (∀ y ∈ [s, x], inT T y) ↔ inT T s ∧ inT T x := by simp
  refine ⟨_, rfl, cond_not (fun hf => ?_) fun ht => ?_⟩
  · have hf : ¬ (inT T s ∧ inT T x) := by rw [← hin]; exact of_decide_eq_false hf
    exact ⟨fun h => absurd h hf, fun _ => ⟨rfl, h2⟩⟩
  · have ht : inT T s ∧ inT T x := by rw [← hin]; exact of_decide_eq_true ht
    intro w3 w4
    refine (makerN 4 22 [s] h2.maker (by omega) (by simp)).mono ?_
    rintro _ w5 ⟨rfl, h5⟩
    obtain ⟨g1, g2⟩ := putG (err_kdf (n := 22) ht.1 (by omega)) (by omega)
    have gl := put_len1 T ⟨4, 22, [s]⟩
    rw [g1] at h5
    refine ⟨_, rfl, ?_⟩
    intro w6
    refine (makerN 3 0 [(put T ⟨4, 22, [s]⟩).2.1, x] h5 (by omega) (by simp)).mono ?_
    rintro _ w7 ⟨rfl, h7⟩
    obtain ⟨g3, g4⟩ := putG (T := (put T ⟨4, 22, [s]⟩).1) (err_hash (xs := [(put T ⟨4, 22, [s]⟩).2.1, x]) (by simp) (by simp; exact ⟨g2, (Ext.put _ _).inT ht.2⟩)) (by omega)
    rw [g3] at h7
    refine ⟨_, rfl, (maker_done _ h7).mono ?_⟩
    rintro _ w8 ⟨rfl, h8⟩
    exact ⟨_, _, rfl, fun _ => ⟨rfl, h8⟩, fun h => absurd ht h⟩

theorem chain_at (s i : Int) (h : At W w (arT p T :: R)) (hl : T.length ≤ 1000000) :
    CallsV Tryd.prog n_sched_Chain #[.pointer (some p), .int .i64 s, .int .i64 i] w fun v w' => (isLeaf i → inT T s → v = .tuple #[.int .i64 (chainP T s i).2, .int .i64 0] ∧ At W w' (arT p (chainP T s i).1 :: R)) ∧
      (¬ (isLeaf i ∧ inT T s) → v = .tuple #[.int .i64 0, .int .i64 (if isLeaf i then 8 else 1)] ∧ At W w' (arT p T :: R)) := by
  refine sched_Chain.lift ?_
  unfold sched_Chain.main
  intro w1
  refine (leaf_new [i] h (by simp)).mono ?_
  rintro _ w2 ⟨rfl, h2⟩
  have hin : (∀ y ∈ [i], isLeaf y) ↔ isLeaf i := by simp
  refine ⟨_, rfl, cond_not (fun hf => ?_) fun ht => ?_⟩
  · have hf : ¬ isLeaf i := by rw [← hin]; exact of_decide_eq_false hf
    exact ⟨fun h => absurd h hf, fun _ => ⟨by rw [if_neg hf], h2⟩⟩
  · have ht : isLeaf i := by rw [← hin]; exact of_decide_eq_true ht
    have ht' := ht
    unfold isLeaf at ht'
    intro w3 w4
    refine (makerN 4 23 [s] h2.maker (by omega) (by simp)).mono ?_
    rintro _ w5 ⟨rfl, h5⟩
    have gl := put_len1 T ⟨4, 23, [s]⟩
    by_cases hs : inT T s
    · obtain ⟨g1, g2⟩ := putG (err_kdf (n := 23) hs (by omega)) (by omega)
      rw [g1] at h5
      refine ⟨_, rfl, (maker0 2 i h5 (by omega)).mono ?_⟩
      rintro _ w6 ⟨rfl, h6⟩
      obtain ⟨g3, g4⟩ := putG (T := (put T ⟨4, 23, [s]⟩).1) (err_word (n := i) (by omega)) (by omega)
      have gl2 := put_len1 (put T ⟨4, 23, [s]⟩).1 ⟨2, i, []⟩
      rw [g3] at h6
      refine ⟨_, rfl, ?_⟩
      intro w7
      refine (makerN 3 0 [(put T ⟨4, 23, [s]⟩).2.1, (put (put T ⟨4, 23, [s]⟩).1 ⟨2, i, []⟩).2.1] h6 (by omega) (by simp)).mono ?_
      rintro _ w8 ⟨rfl, h8⟩
      obtain ⟨g5, g6⟩ := putG (T := (put (put T ⟨4, 23, [s]⟩).1 ⟨2, i, []⟩).1) (err_hash (xs := [(put T ⟨4, 23, [s]⟩).2.1, (put (put T ⟨4, 23, [s]⟩).1 ⟨2, i, []⟩).2.1]) (by simp) (by simp; exact ⟨(Ext.put _ _).inT g2, g4⟩)) (by omega)
      rw [g5] at h8
      refine ⟨_, rfl, (maker_done _ h8).mono ?_⟩
      rintro _ w9 ⟨rfl, h9⟩
      exact ⟨_, _, rfl, fun _ _ => ⟨rfl, h9⟩, fun h => absurd ⟨ht, hs⟩ h⟩
    · have e8 := err_kdf8 (T := T) (n := 23) hs (by omega)
      have eb := put_bad' (T := T) (t := ⟨4, 23, [s]⟩) (by rw [e8]; decide)
      rw [e8] at eb
      rw [eb] at h5 ⊢
      refine ⟨_, rfl, (maker_off (e := 8) (by decide) 2 i ⟨none, 0, 0⟩ h5).mono ?_⟩
      rintro _ w6 ⟨rfl, h6⟩
      refine ⟨_, rfl, ?_⟩
      intro w7
      refine (makerOff 3 0 [0, 0] (e := 8) (by decide) h6 (by simp)).mono ?_
      rintro _ w8 ⟨rfl, h8⟩
      refine ⟨_, rfl, (maker_done _ h8).mono ?_⟩
      rintro _ w9 ⟨rfl, h9⟩
      exact ⟨_, _, rfl, fun _ h => absurd h hs, fun _ => ⟨by rw [if_pos ht]; rfl, h9⟩⟩

theorem meet_at (s i j n : Int) (h : At W w (arT p T :: R)) (hl : T.length ≤ 1000000) (hn : n ≤ 9223372036854775807) :
    CallsV Tryd.prog n_sched_Meet #[.pointer (some p), .int .i64 s, .int .i64 i, .int .i64 j, .int .i64 n] w fun v w' => (isLeaf i ∧ isLeaf j ∧ 0 ≤ n → inT T s → v = .tuple #[.int .i64 (meetP T s i j n).2, .int .i64 0] ∧ At W w' (arT p (meetP T s i j n).1 :: R)) ∧
      (¬ ((isLeaf i ∧ isLeaf j ∧ 0 ≤ n) ∧ inT T s) → v = .tuple #[.int .i64 0, .int .i64 (if isLeaf i ∧ isLeaf j ∧ 0 ≤ n then 8 else 1)] ∧ At W w' (arT p T :: R)) := by
  refine sched_Meet.lift ?_
  unfold sched_Meet.main
  intro w1
  refine (leaf_new [i, j] h (by simp)).mono ?_
  rintro _ w2 ⟨rfl, h2⟩
  have hin : (∀ y ∈ [i, j], isLeaf y) ↔ isLeaf i ∧ isLeaf j := by simp
  refine ⟨_, rfl, cond_not (fun hf => ?_) fun ht => cond_d (fun hneg => ?_) fun hpos => ?_⟩
  · have hf : ¬ (isLeaf i ∧ isLeaf j ∧ 0 ≤ n) := fun h => of_decide_eq_false hf (hin.2 ⟨h.1, h.2.1⟩)
    exact ⟨fun h => absurd h hf, fun _ => ⟨by rw [if_neg hf], h2⟩⟩
  · have hf : ¬ (isLeaf i ∧ isLeaf j ∧ 0 ≤ n) := fun h => by omega
    exact ⟨fun h => absurd h hf, fun _ => ⟨by rw [if_neg hf], h2⟩⟩
  · have ht0 := hin.1 (of_decide_eq_true ht)
    have ht : isLeaf i ∧ isLeaf j ∧ 0 ≤ n := ⟨ht0.1, ht0.2, by omega⟩
    have ht' := ht
    unfold isLeaf at ht'
    obtain ⟨lo, hlo⟩ : ∃ lo, lo = if j < i then j else i := ⟨_, rfl⟩
    obtain ⟨hi, hhi⟩ : ∃ hi, hi = if j > i then j else i := ⟨_, rfl⟩
    have hlo2 : 0 ≤ lo ∧ lo < 8 := by rw [hlo]; split <;> omega
    have hhi2 : 0 ≤ hi ∧ hi < 8 := by rw [hhi]; split <;> omega
    have hmp : meetP T s i j n = ((put (put (put (put (put T ⟨4, 24, [s]⟩).1 ⟨2, lo, []⟩).1 ⟨2, hi, []⟩).1 ⟨2, n, []⟩).1 ⟨3, 0, [(put T ⟨4, 24, [s]⟩).2.1, (put (put T ⟨4, 24, [s]⟩).1 ⟨2, lo, []⟩).2.1, (put (put (put T ⟨4, 24, [s]⟩).1 ⟨2, lo, []⟩).1 ⟨2, hi, []⟩).2.1, (put (put (put (put T ⟨4, 24, [s]⟩).1 ⟨2, lo, []⟩).1 ⟨2, hi, []⟩).1 ⟨2, n, []⟩).2.1]⟩).1,
        (put (put (put (put (put T ⟨4, 24, [s]⟩).1 ⟨2, lo, []⟩).1 ⟨2, hi, []⟩).1 ⟨2, n, []⟩).1 ⟨3, 0, [(put T ⟨4, 24, [s]⟩).2.1, (put (put T ⟨4, 24, [s]⟩).1 ⟨2, lo, []⟩).2.1, (put (put (put T ⟨4, 24, [s]⟩).1 ⟨2, lo, []⟩).1 ⟨2, hi, []⟩).2.1, (put (put (put (put T ⟨4, 24, [s]⟩).1 ⟨2, lo, []⟩).1 ⟨2, hi, []⟩).1 ⟨2, n, []⟩).2.1]⟩).2.1) := by
      rw [hlo, hhi]; rfl
    rw [hmp]
    unfold sched_Meet.c1
    rw [← hlo, ← hhi]
    intro w3 w4
    refine (makerN 4 24 [s] h2.maker (by omega) (by simp)).mono ?_
    rintro _ w5 ⟨rfl, h5⟩
    have gl := put_len1 T ⟨4, 24, [s]⟩
    by_cases hs : inT T s
    · obtain ⟨g1, g2⟩ := putG (err_kdf (n := 24) hs (by omega)) (by omega)
      rw [g1] at h5
      generalize hp1 : put T ⟨4, 24, [s]⟩ = q1 at h5 g2 gl ⊢
      obtain ⟨T1, x1, f1⟩ := q1
      refine ⟨_, rfl, (maker0 2 lo h5 (by omega)).mono ?_⟩
      rintro _ w6 ⟨rfl, h6⟩
      obtain ⟨g3, g4⟩ := putG (T := T1) (err_word (n := lo) (by omega)) (by simp only at gl; omega)
      have gl2 := put_len1 T1 ⟨2, lo, []⟩
      have e2 := Ext.put T1 ⟨2, lo, []⟩
      rw [g3] at h6
      simp only at h5 g2 gl h6 ⊢
      generalize hp2 : put T1 ⟨2, lo, []⟩ = q2 at h6 g4 gl2 e2 ⊢
      obtain ⟨T2, x2, f2⟩ := q2
      refine ⟨_, rfl, (maker0 2 hi h6 (by omega)).mono ?_⟩
      rintro _ w7 ⟨rfl, h7⟩
      obtain ⟨g5, g6⟩ := putG (T := T2) (err_word (n := hi) (by omega)) (by simp only at gl2; omega)
      have gl3 := put_len1 T2 ⟨2, hi, []⟩
      have e3 := Ext.put T2 ⟨2, hi, []⟩
      rw [g5] at h7
      simp only at g4 gl2 e2 h7 ⊢
      generalize hp3 : put T2 ⟨2, hi, []⟩ = q3 at h7 g6 gl3 e3 ⊢
      obtain ⟨T3, x3, f3⟩ := q3
      refine ⟨_, rfl, (maker0 2 n h7 (by omega)).mono ?_⟩
      rintro _ w8 ⟨rfl, h8⟩
      obtain ⟨g7, g8⟩ := putG (T := T3) (err_word (n := n) (by omega)) (by simp only at gl3; omega)
      have gl4 := put_len1 T3 ⟨2, n, []⟩
      have e4 := Ext.put T3 ⟨2, n, []⟩
      rw [g7] at h8
      simp only at g6 gl3 e3 h8 ⊢
      generalize hp4 : put T3 ⟨2, n, []⟩ = q4 at h8 g8 gl4 e4 ⊢
      obtain ⟨T4, x4, f4⟩ := q4
      simp only at g8 gl4 e4 h8 ⊢
      refine ⟨_, rfl, ?_⟩
      refine (makerN 3 0 [x1, x2, x3, x4] h8 (by omega) (by simp)).mono ?_
      rintro _ w10 ⟨rfl, h10⟩
      obtain ⟨g9, g10⟩ := putG (T := T4) (err_hash (xs := [x1, x2, x3, x4]) (by simp) (by simp; exact ⟨e4.inT (e3.inT (e2.inT g2)), e4.inT (e3.inT g4), e4.inT g6, g8⟩)) (by omega)
      rw [g9] at h10
      refine ⟨_, rfl, (maker_done _ h10).mono ?_⟩
      rintro _ w11 ⟨rfl, h11⟩
      exact ⟨_, _, rfl, fun _ _ => ⟨rfl, h11⟩, fun h => absurd ⟨ht, hs⟩ h⟩
    · have e8 := err_kdf8 (T := T) (n := 24) hs (by omega)
      have eb := put_bad' (T := T) (t := ⟨4, 24, [s]⟩) (by rw [e8]; decide)
      rw [e8] at eb
      have h5 : At W w5 (mkA (newA w2) p 8 :: arT p T :: R) := by rw [eb] at h5; exact h5
      have e0 : (put T ⟨4, 24, [s]⟩).2.1 = 0 := by rw [eb]
      rw [e0]
      refine ⟨_, rfl, (maker_off (e := 8) (by decide) 2 lo ⟨none, 0, 0⟩ h5).mono ?_⟩
      rintro _ w6 ⟨rfl, h6⟩
      refine ⟨_, rfl, (maker_off (e := 8) (by decide) 2 hi ⟨none, 0, 0⟩ h6).mono ?_⟩
      rintro _ w7 ⟨rfl, h7⟩
      refine ⟨_, rfl, (maker_off (e := 8) (by decide) 2 n ⟨none, 0, 0⟩ h7).mono ?_⟩
      rintro _ w8 ⟨rfl, h8⟩
      refine ⟨_, rfl, ?_⟩
      intro w9
      refine (makerOff 3 0 [0, 0, 0, 0] (e := 8) (by decide) h8 (by simp)).mono ?_
      rintro _ w10 ⟨rfl, h10⟩
      refine ⟨_, rfl, (maker_done _ h10).mono ?_⟩
      rintro _ w11 ⟨rfl, h11⟩
      exact ⟨_, _, rfl, fun _ h => absurd h hs, fun _ => ⟨by rw [if_pos ht]; rfl, h11⟩⟩

/-! the page's -/

theorem rjoiner_at (x y : Int) (h : At W w (pgT p T :: R)) :
    CallsV Tryd.prog n_trystref15_Joiner #[.pointer (some p), .int .i64 x, .int .i64 y] w fun v w' => v = .int .i64 (put T ⟨3, 0, [x, y]⟩).2.1 ∧ At W w' (pgT p (put T ⟨3, 0, [x, y]⟩).1 :: R) := by
  refine trystref15_Joiner.lift ?_
  unfold trystref15_Joiner.main
  intro w1
  refine (rmk 3 0 [x, y] h (by simp)).mono ?_
  rintro _ w' ⟨rfl, h2⟩
  exact ⟨_, rfl, rfl, h2⟩
theorem rsecret_at (x y z : Int) (h : At W w (pgT p T :: R)) :
    CallsV Tryd.prog n_trystref15_Secret #[.pointer (some p), .int .i64 x, .int .i64 y, .int .i64 z] w fun v w' => v = .int .i64 (put T ⟨3, 0, [x, y, z]⟩).2.1 ∧ At W w' (pgT p (put T ⟨3, 0, [x, y, z]⟩).1 :: R) := by
  refine trystref15_Secret.lift ?_
  unfold trystref15_Secret.main
  intro w1
  refine (rmk 3 0 [x, y, z] h (by simp)).mono ?_
  rintro _ w' ⟨rfl, h2⟩
  exact ⟨_, rfl, rfl, h2⟩
theorem rtag_at (s x : Int) (h : At W w (pgT p T :: R)) :
    CallsV Tryd.prog n_trystref15_Tag #[.pointer (some p), .int .i64 s, .int .i64 x] w fun v w' => v = .int .i64 (tagP T s x).2 ∧ At W w' (pgT p (tagP T s x).1 :: R) := by
  refine trystref15_Tag.lift ?_
  unfold trystref15_Tag.main
  refine (rkdf s 22 h).mono ?_
  rintro _ w1 ⟨rfl, h1⟩
  refine ⟨_, rfl, ?_⟩
  intro w2
  refine (rmk 3 0 [(put T ⟨4, 22, [s]⟩).2.1, x] h1 (by simp)).mono ?_
  rintro _ w' ⟨rfl, h2⟩
  exact ⟨_, rfl, rfl, h2⟩
theorem rchain_at (s i : Int) (h : At W w (pgT p T :: R)) :
    CallsV Tryd.prog n_trystref15_Chain #[.pointer (some p), .int .i64 s, .int .i64 i] w fun v w' => v = .int .i64 (chainP T s i).2 ∧ At W w' (pgT p (chainP T s i).1 :: R) := by
  refine trystref15_Chain.lift ?_
  unfold trystref15_Chain.main
  refine (rkdf s 23 h).mono ?_
  rintro _ w1 ⟨rfl, h1⟩
  refine ⟨_, rfl, (rword i h1).mono ?_⟩
  rintro _ w2 ⟨rfl, h2⟩
  refine ⟨_, rfl, ?_⟩
  intro w3
  refine (rmk 3 0 [(put T ⟨4, 23, [s]⟩).2.1, (put (put T ⟨4, 23, [s]⟩).1 ⟨2, i, []⟩).2.1] h2 (by simp)).mono ?_
  rintro _ w' ⟨rfl, h4⟩
  exact ⟨_, rfl, rfl, h4⟩
theorem rmeet_at (s i j n : Int) (h : At W w (pgT p T :: R)) :
    CallsV Tryd.prog n_trystref15_Meet #[.pointer (some p), .int .i64 s, .int .i64 i, .int .i64 j, .int .i64 n] w fun v w' => v = .int .i64 (meetP T s i j n).2 ∧ At W w' (pgT p (meetP T s i j n).1 :: R) := by
  refine trystref15_Meet.lift ?_
  unfold trystref15_Meet.main
  refine (rkdf s 24 h).mono ?_
  rintro _ w1 ⟨rfl, h1⟩
  refine ⟨_, rfl, (rword _ h1).mono ?_⟩
  rintro _ w2 ⟨rfl, h2⟩
  refine ⟨_, rfl, (rword _ h2).mono ?_⟩
  rintro _ w3 ⟨rfl, h3⟩
  refine ⟨_, rfl, (rword n h3).mono ?_⟩
  rintro _ w4 ⟨rfl, h4⟩
  refine ⟨_, rfl, ?_⟩
  intro w5
  refine (rmk 3 0 [_, _, _, _] h4 (by simp)).mono ?_
  rintro _ w' ⟨rfl, h6⟩
  exact ⟨_, rfl, rfl, h6⟩

theorem nodes_new (xs : List Int) (h : At W w (pgT p T :: R)) (hx : xs.length ≤ 1000000000) :
    CallsV Tryd.prog n_trystlaw18_nodes #[.pointer (some p), .slice (some (newA w)) xs.length xs.length] (w.alloc (.cells (xs.map (Value.int .i64)).toArray 3)) fun v w' => v = .int .i64 (if ∀ x ∈ xs, inT T x then 0 else 8) ∧ At W w' (pgT p T :: R) := by
  refine trystlaw18_nodes.lift (l1 := ⟨some (newA w), xs.length, xs.length⟩) ?_
  unfold trystlaw18_nodes.main
  refine (rhas_new xs h hx).mono ?_
  rintro _ w1 ⟨rfl, h1⟩
  refine ⟨_, rfl, cond_not (fun hf => ⟨by rw [if_neg (of_decide_eq_false hf)], h1⟩) fun ht => ⟨by rw [if_pos (of_decide_eq_true ht)], h1⟩⟩
end

end Go.Proofs.YtoclhecldmahiaaDoor
