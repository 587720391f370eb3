/-
  A store: the state is read; what a save does to a disk.
-/
import Derived.Test.YtledhokhcoeeeaaDoorStA
set_option linter.unusedVariables false
set_option linter.unusedVariables false
set_option linter.unusedSimpArgs false
namespace Go.Proofs.YtledhokhcoeeeaaDoor
open Go.Lf Go.RowKit

section
variable {W w w' : World} {L L' R X : List Asn} {d p a out : Addr} {st : DS} {V : Value} {c : Nat} {S : List Int}

/-- bytes behind bytes -/
theorem At.more (h : At W w L) (k : Nat) {s t : Sl} {xs ys : List Int} (hk : L[k]? = some (byA s xs)) (hI : Ints .u8 w t ys) (hy : ys ≠ []) (hm : xs.length + ys.length ≤ 1000000000) :
    ∃ (s' : Sl) (w' : World), (builtin .append #[30, 30] 30 #[] #[.slice s.a s.len s.cap, .slice t.a t.len t.cap]).run Tryd.prog w = .ok (.value (.slice s'.a s'.len s'.cap)) w' ∧ At W w' (L.set k (byA s' (xs ++ ys))) := by
  obtain ⟨i, hi, hz, hsz, hby⟩ := t5
  obtain ⟨y, ys', rfl⟩ : ∃ y ys', ys = y :: ys' := by cases ys with
    | nil => exact absurd rfl hy
    | cons y ys' => exact ⟨y, ys', rfl⟩
  obtain ⟨q, hq, _⟩ := hI.cell 0 y rfl
  have hl := hI.len
  obtain ⟨s', w', hr, _, h2, hb2⟩ := Sep.append (ty := 30) (c := t.cap) (m := (y :: ys').length) Tryd.underlying30 hi hz hsz hby rfl (by omega) k hk h.s (a := q) (news := (y :: ys').map (Value.int .u8)) (by simp) (ints_news hI hq) one_ints (by unfold maxLen; omega) (by omega) (by simp only [List.length_cons]; omega)
  refine ⟨s', w', ?_, ?_⟩
  · rw [hq, hl]; exact hr
  · refine h.go ?_ hb2
    unfold byA
    rw [List.map_append, List.length_append]
    exact h2

theorem chunk_pad {b : List Int} {k : Nat} (h : 64 * k ≤ b.length) : (b.drop (64 * k)).take 64 ++ (zer 64).drop (b.drop (64 * k)).length = chunk b k := by
  unfold chunk
  rw [List.drop_append_of_le_length h, List.take_append, List.length_drop]
  congr 1
  unfold zer
  rw [List.drop_replicate, List.take_replicate]
  congr 1
  omega
theorem chunk_ne {b : List Int} {k : Nat} (h : 64 * k ≤ b.length) : chunk b k ≠ [] := fun hh => by
  have := chunk_len h
  rw [hh] at this
  cases this

/-- a part of a row of one's own, from then on only read -/
theorem At.front_part {out' : Sl} {xs : List Int} (h : At W w (byA out' xs :: R)) {t : Sl} {ys : List Int} (hI : Ints .u8 w t ys) (ha : ∀ q, t.a = some q → ∃ q', out'.a = some q' ∧ q.block = q'.block) : At W w (intsA .u8 t ys :: R) := by
  obtain ⟨hs, hb, hg⟩ := h
  obtain ⟨hle, F, h1, ⟨h2, h3⟩, h4⟩ := hs
  refine ⟨⟨hle, F, h1, ⟨hI, fun q hq _ => ?_⟩, h4⟩, hb, hg⟩
  obtain ⟨q', hq', he⟩ := ha q hq
  rw [he]
  exact h3 q' hq'

set_option maxRecDepth 100000 in
/-- the state that the mark tells of -/
theorem sread_at (hH : Holds st.safe c S) (hp : st.pend = []) (ho : st.off = false) (h : At W w (diskA d st :: boxA p [.pointer (some d), V] :: R)) :
    CallsV Tryd.prog n_store_Store_read #[.pointer (some p), .agg #[.int .u64 (c : Int), .int .i64 (S.length : Int)]] w fun v w' => ∃ t : Sl, v = .tuple #[.slice t.a t.len t.cap, .nilIface] ∧ At W w' (intsA .u8 t S :: diskA d st :: boxA p [.pointer (some d), V] :: R) := by
  refine store_Store_read.lift ?_
  unfold store_Store_read.main
  intro w5
  have few := hH.few
  have hlen := hH.len
  have h5 : At W w5 (byA ⟨none, 0, 0⟩ [] :: diskA d st :: boxA (newA w) [.int .u64 (c : Int), .int .i64 (S.length : Int)] :: boxA p [.pointer (some d), V] :: R) := (At.noBytes (At.box h [.int .u64 (c : Int), .int .i64 (S.length : Int)] 64)).perm (List.Perm.cons _ (.swap _ _ _))
  clear_value w5
  generalize newA w = m at h5 ⊢
  unfold store_Store_read.l2
  refine ⟨fun t w' => ∃ k : Nat, t.2 = k ∧ (0 < k → 0 < c ∧ 64 * (k - 1) < S.length) ∧ At W w' (byA t.1 ((S ++ zer 64).take (64 * k)) :: diskA d st :: boxA m [.int .u64 (c : Int), .int .i64 (S.length : Int)] :: boxA p [.pointer (some d), V] :: R), fun t _ => 200 - t.2.toNat, ⟨0, rfl, fun hk => absurd hk (by omega), h5⟩, ?_⟩
  clear h5 h
  rintro ⟨out, _⟩ w1 ⟨k, rfl, hk, h1⟩
  show store_Store_read.b2 _ _ (some p) m out (k : Int) w1
  have h1 : At W w1 (byA out ((S ++ zer 64).take (64 * k)) :: diskA d st :: boxA m [.int .u64 (c : Int), .int .i64 (S.length : Int)] :: boxA p [.pointer (some d), V] :: R) := h1
  have hk126 : k ≤ 125 := by
    rcases Nat.eq_zero_or_pos k with h0 | h0
    · omega
    · have := (hk h0).2; omega
  have hzl : (S ++ zer 64).length = S.length + 64 := by simp [zer]
  have hxl : ((S ++ zer 64).take (64 * k)).length = 64 * k := by
    rw [List.length_take, hzl]
    rcases Nat.eq_zero_or_pos k with h0 | h0
    · omega
    · have := (hk h0).2; omega
  have hol := h1.len 0 rfl
  rw [hxl] at hol
  have hcap := h1.bcap 0 rfl
  -- the end
  have fin : S.length ≤ 64 * k → store_Store_read.c1 (fun v w' => ∃ t : Sl, v = .tuple #[.slice t.a t.len t.cap, .nilIface] ∧ At W w' (intsA .u8 t S :: diskA d st :: boxA p [.pointer (some d), V] :: R)) m out w1 := by
    intro hle
    unfold store_Store_read.c1
    have em : (if ((out.len : Nat) : Int) < (S.length : Int) then ((out.len : Nat) : Int) else (S.length : Int)) = ((S.length : Nat) : Int) := by rw [if_neg (by omega)]
    refine ⟨_, h1.cell 2 rfl 1 rfl, by omega, by rw [em]; omega, by rw [em]; omega, by omega, ?_⟩
    rw [em]
    refine ⟨⟨_, _, _⟩, rfl, ?_⟩
    have hB := h1.bytes 0 rfl (by rw [hxl]; omega)
    refine At.less 2 rfl (At.front_part h1 ?_ ?_)
    · by_cases h0 : out.cap = 0
      · have hS0 : S = [] := List.eq_nil_of_length_eq_zero (by omega)
        rw [hS0]
        exact ⟨rfl, by show (0 : Nat) - 0 ≤ _; omega, fun i x hx => by simp at hx⟩
      · have := sub_ints hB (m := 0) (n := S.length) (by omega) (by rw [hxl]; exact hle) (by omega)
        rw [List.drop_zero, Nat.sub_zero, whole hle] at this
        exact this
    · intro q hq
      have hq : (if out.cap = 0 then out.a else out.a.map (·.add 0)) = some q := hq
      split at hq
      · exact ⟨q, hq, rfl⟩
      · obtain ⟨q', hq', rfl⟩ := Option.map_eq_some_iff.1 hq
        exact ⟨q', hq', by rw [add_block]⟩
  unfold store_Store_read.b2
  refine ⟨_, h1.cell0 2 rfl, cond_d (fun hc0 => ?_) fun hc0 => fin (by rw [hH.nil (by omega)]; simp)⟩
  refine ⟨_, h1.cell 2 rfl 1 rfl, cond_d (fun hlt => ?_) fun hge => fin (by omega)⟩
  have hkS : 64 * k < S.length := by omega
  unfold store_Store_read.c3
  have hd := h1.drew
  refine ⟨fun u => u.cell? p = some (.pointer (some d)) ∧ u.cell? m = some (.int .u64 (c : Int)), ⟨hd.cell0 3 rfl, hd.cell0 2 rfl⟩, p, rfl, _, fun u hu => hu.1, _, fun u hu => hu.2, ?_⟩
  refine (place_spec c k (by omega)).mono ?_
  rintro _ w2 ⟨rfl, hw⟩
  subst hw
  refine ⟨_, rfl, ⟨hd.cell0 3 rfl, hd.cell0 2 rfl⟩, ?_⟩
  have hdf : At W w1.drew (diskA d st :: byA out ((S ++ zer 64).take (64 * k)) :: boxA m [.int .u64 (c : Int), .int .i64 (S.length : Int)] :: boxA p [.pointer (some d), V] :: R) := hd.swap
  have hr : readD st ((base c + k : Nat) : Int) = (chunk S k, 0) := by
    have hb : base c + k < 252 := by unfold base; have := Nat.mod_lt c (y := 2) (by omega); omega
    rw [readD_at hp ho (i := base c + k) (by omega), hH.area.at_ k hkS]
    rfl
  refine (dread_at hdf _).mono ?_
  rintro _ w3 ⟨s, rfl, h3⟩
  rw [hr] at h3 ⊢
  have h3 : At W w3 (byA s (chunk S k) :: diskA d st :: byA out ((S ++ zer 64).take (64 * k)) :: boxA m [.int .u64 (c : Int), .int .i64 (S.length : Int)] :: boxA p [.pointer (some d), V] :: R) := h3
  refine ⟨_, _, _, _, rfl, (wrap_at h3 _ _).mono ?_⟩
  intro v w4 h4
  have hnil := h4.errNil 0 rfl
  refine ⟨_, rfl, _, hnil, cond_f' rfl ?_⟩
  have h5 := h4.drop
  have hcl := chunk_len (S := S) (k := k) (by omega)
  obtain ⟨s6, w6, run, h6⟩ := h5.more 2 rfl (h5.bytes 0 rfl (by rw [hcl]; omega)) (chunk_ne (by omega)) (by rw [hxl, hcl]; omega)
  refine ⟨_, _, _, w6, run, ?_⟩
  have h6 : At W w6 (byA s (chunk S k) :: diskA d st :: byA s6 ((S ++ zer 64).take (64 * k) ++ chunk S k) :: boxA m [.int .u64 (c : Int), .int .i64 (S.length : Int)] :: boxA p [.pointer (some d), V] :: R) := h6
  rw [chunk_take] at h6
  dsimp only
  rw [inc (by omega)]
  exact ⟨⟨rfl, rfl, k + 1, rfl, fun _ => ⟨by omega, by rw [Nat.add_sub_cancel]; exact hkS⟩, h6.drop.swap⟩, by (try dsimp only); omega⟩
end

/-! what a save does to a disk -/

/-- a disk in the middle of a save; q: no power goes -/
structure Mid (safe : List (Option (List Int))) (pend : List (Nat × List Int)) (q : Bool) (st : DS) : Prop where
  safe : st.safe = safe
  pend : st.pend = pend
  on : st.off = false
  keep : ∀ t, st.trip = some t → t.2.1.length ≤ 1000000000
  quiet : q = true → st.trip = none
/-- the power has gone -/
structure Gone (safe : List (Option (List Int))) (st : DS) : Prop where
  safe : st.safe = safe
  pend : st.pend = []
  off : st.off = true
  trip : st.trip = none

theorem Mid.wf {safe : List (Option (List Int))} {pend : List (Nat × List Int)} {q : Bool} {st : DS} (h : Mid safe pend q st) (hp : pend.length ≤ 1000) : WfD st := ⟨by rw [h.pend]; omega, h.keep⟩
theorem Mid.trips {safe : List (Option (List Int))} {pend : List (Nat × List Int)} {q : Bool} {st : DS} (h : Mid safe pend q st) :
    ((tripsD st).1 = true ∧ q = false ∧ ∃ keep torn, Gone (crashSafe keep torn 0 pend safe) (tripsD st).2) ∨ ((tripsD st).1 = false ∧ Mid safe pend q (tripsD st).2) := by
  rw [tripsD_eq h.on]
  by_cases hh : hitT st.trip = true
  · rw [if_pos hh]
    refine .inl ⟨rfl, ?_, keepOf st.trip, tornOf st.trip, by rw [h.pend, h.safe], rfl, rfl, rfl⟩
    cases q with
    | false => rfl
    | true => rw [h.quiet rfl] at hh; cases hh
  · rw [if_neg hh]
    refine .inr ⟨rfl, h.safe, h.pend, h.on, fun t ht => ?_, fun hq => ?_⟩
    · have ht : decT st.trip = some t := ht
      cases hst : st.trip with
      | none => rw [hst] at ht; cases ht
      | some u =>
        obtain ⟨u1, u2, u3⟩ := u
        rw [hst] at ht
        have ht := Option.some.inj ht
        subst ht
        exact h.keep (u1, u2, u3) hst
    · show decT st.trip = none
      rw [h.quiet hq]
      rfl
theorem Mid.write {safe : List (Option (List Int))} {pend : List (Nat × List Int)} {q : Bool} {st : DS} (h : Mid safe pend q st) {i : Nat} (hi : i < safe.length) {b : List Int} (hb : b.length = 64) :
    ((writeD st (i : Int) b).1 = 9 ∧ q = false ∧ ∃ keep torn, Gone (crashSafe keep torn 0 (pend ++ [(i, b)]) safe) (writeD st (i : Int) b).2) ∨ ((writeD st (i : Int) b).1 = 0 ∧ Mid safe (pend ++ [(i, b)]) q (writeD st (i : Int) b).2) := by
  have hw : wrongD st (i : Int) = 0 := by
    unfold wrongD
    rw [if_neg (by rw [h.on]; simp), if_neg (by rw [h.safe]; omega)]
  unfold writeD
  rw [if_neg (fun hh => hh hw), if_neg (fun hh => hh hb), Int.toNat_natCast]
  have h1 : Mid safe (pend ++ [(i, b)]) q (addD st i b) := ⟨h.safe, by show st.pend ++ _ = _; rw [h.pend], h.on, h.keep, h.quiet⟩
  rcases h1.trips with ⟨a1, a2, a3⟩ | ⟨a1, a2⟩
  · exact .inl ⟨by rw [a1]; rfl, a2, a3⟩
  · exact .inr ⟨by rw [a1]; rfl, a2⟩
theorem Mid.sync {safe : List (Option (List Int))} {pend : List (Nat × List Int)} {q : Bool} {st : DS} (h : Mid safe pend q st) :
    ((syncD st).1 = 9 ∧ q = false ∧ ∃ keep torn, Gone (crashSafe keep torn 0 pend safe) (syncD st).2) ∨ ((syncD st).1 = 0 ∧ Mid (nowOf safe pend) [] q (syncD st).2) := by
  unfold syncD
  rw [if_neg (by rw [h.on]; simp)]
  rcases h.trips with ⟨a1, a2, a3⟩ | ⟨a1, a2⟩
  · rw [if_pos a1]
    exact .inl ⟨rfl, a2, a3⟩
  · rw [if_neg (by rw [a1]; simp)]
    exact .inr ⟨rfl, by show nowOf _ _ = _; rw [a2.safe, a2.pend], rfl, a2.on, a2.keep, a2.quiet⟩

/-- what is left behind a save -/
inductive Saved (safe : List (Option (List Int))) (c : Nat) (S b : List Int) (q : Bool) (e : Int) (st : DS) : Prop where
  | done (he : e = 0) (h1 : Mid st.safe [] q st) (h2 : Holds st.safe (c + 1) b) : Saved safe c S b q e st
  | gone (he : e = 9) (hq : q = false) (h1 : Gone st.safe st) (h2 : Holds st.safe c S ∨ Holds st.safe (c + 1) b) : Saved safe c S b q e st

end Go.Proofs.YtledhokhcoeeeaaDoor

/-
  A store: a save.
-/
set_option linter.unusedVariables false
set_option linter.unusedSimpArgs false
namespace Go.Proofs.YtledhokhcoeeeaaDoor
open Go.Lf Go.RowKit

section
variable {W w w' : World} {L L' R X : List Asn} {d p a m : Addr} {st st1 : DS} {V : Value} {c : Nat} {S b : List Int} {q : Bool} {sb : Sl}

theorem dwrite_at (h : At W w (diskA d st :: R)) (wf : WfD st) {s : Sl} {bs : List Int} (i : Int) (hbs : bs.length ≤ 1000000000) (hs : ∀ w', At W w' R → Ints .u8 w' s bs) :
    CallsV Tryd.prog n_disk_Disk_Write #[.pointer (some d), .int .i64 i, .slice s.a s.len s.cap] w fun v w' => v = .int .i64 (writeD st i bs).1 ∧ At W w' (diskA d (writeD st i bs).2 :: R) := by
  refine (write_spec h.s wf (s := s) (bs := bs) i hbs fun w' hb hS => hs w' ⟨hS, h.b.trans hb, h.g⟩).mono ?_
  rintro _ w' ⟨rfl, h1, h2⟩
  exact ⟨rfl, h.go h1 h2⟩
theorem dsync_at (h : At W w (diskA d st :: R)) (wf : WfD st) : CallsV Tryd.prog n_disk_Disk_Sync #[.pointer (some d)] w fun v w' => v = .int .i64 (syncD st).1 ∧ At W w' (diskA d (syncD st).2 :: R) := by
  refine (sync_spec h.s wf).mono ?_
  rintro _ w' ⟨rfl, h1, h2⟩
  exact ⟨rfl, h.go h1 h2⟩

theorem areaW_len (c : Nat) (b : List Int) (m : Nat) : (areaW c b m).length = m := by simp [areaW]

theorem Saved.ofGone {safe X : List (Option (List Int))} {st' : DS} (hq : q = false) (g : Gone X st') (hX : Holds X c S ∨ Holds X (c + 1) b) : Saved safe c S b q 9 st' :=
  .gone rfl hq ⟨rfl, g.pend, g.off, g.trip⟩ (by rw [g.safe]; exact hX)

abbrev SavePost (W : World) (R : List Asn) (d p : Addr) (V : Value) (safe : List (Option (List Int))) (c : Nat) (S b : List Int) (q : Bool) (v : Value) (w' : World) : Prop :=
  ∃ (st' : DS) (e : Int), Saved safe c S b q e st' ∧ At W w' (ErrA v e :: diskA d st' :: boxA p [.pointer (some d), V] :: R)

set_option maxRecDepth 100000 in
/-- behind the area: it is made safe; the mark -/
theorem save_c1 (hH : Holds st.safe c S) {m' : Nat} (hM : Mid st.safe (areaW c b m') q st1) (hm : m' ≤ 125) (hbm : b.length ≤ 64 * m') (hc : c < 2 ^ 40) (hbl : b.length ≤ 8000)
    (h : At W w (diskA d st1 :: boxA m [.int .u64 ((c + 1 : Nat) : Int), .int .i64 (b.length : Int)] :: boxA p [.pointer (some d), V] :: R)) : store_Store_save.c1 (SavePost W R d p V st.safe c S b q) (some p) m w := by
  have hl := hH.len
  unfold store_Store_save.c1
  refine ⟨p, rfl, _, h.cell0 2 rfl, (dsync_at h (hM.wf (by rw [areaW_len]; omega))).mono ?_⟩
  rintro _ w1 ⟨rfl, h1⟩
  refine ⟨_, rfl, (wrap_at h1 _ _).mono ?_⟩
  intro v w2 h2
  have hnil := h2.errNil 0 rfl
  refine ⟨_, rfl, ?_⟩
  rcases hM.sync with ⟨e9, hq, keep, torn, g⟩ | ⟨e0, hM1⟩
  · rw [e9] at h2 hnil
    refine ⟨_, hnil, cond_t rfl ⟨_, 9, Saved.ofGone hq g (.inl (hH.crash hm keep torn)), h2.less 2 rfl⟩⟩
  rw [e0] at h2 hnil
  refine ⟨_, hnil, cond_f' rfl ?_⟩
  have h3 := h2.drop.drew
  have hH1 := hH.now (b := b) hm
  have hA1 := now_area (c := c) (b := b) hl hm hbm
  have hl1 := hH1.len
  generalize nowOf st.safe (areaW c b m') = safe1 at hM1 hH1 hA1 hl1
  generalize (syncD st1).2 = st2 at hM1 h3
  refine ⟨fun u => u.cell? p = some (.pointer (some d)) ∧ u.cell? m = some (.int .u64 ((c + 1 : Nat) : Int)) ∧ u.cell? (m.add 1) = some (.int .i64 (b.length : Int)), ⟨h3.cell0 2 rfl, h3.cell0 1 rfl, h3.cell 1 rfl 1 rfl⟩, p, rfl, _, fun u hu => hu.1, _, fun u hu => hu.2.1, by omega, _, fun u hu => hu.2.1, _, fun u hu => hu.2.2, ?_⟩
  refine (sector_at h3 (c + 1) b.length (by omega)).mono ?_
  rintro _ w3 ⟨sl, rfl, h4⟩
  refine ⟨_, _, _, rfl, ⟨h4.cell0 3 rfl, h4.cell0 2 rfl, h4.cell 2 rfl 1 rfl⟩, ?_⟩
  have ei : IntKind.i64.wrap (Int.tmod ((c + 1 : Nat) : Int) 2) = (((c + 1) % 2 : Nat) : Int) := by
    have : Int.tmod ((c + 1 : Nat) : Int) 2 = (((c + 1) % 2 : Nat) : Int) := by rw [tmod_nn (by omega)]; omega
    rw [this, w64 (by omega)]
  rw [ei]
  have hml := markB_len (c + 1) b.length
  refine (dwrite_at h4.swap (hM1.wf (by simp)) (s := sl) (bs := markB (c + 1) b.length) _ (by omega) (fun w' hw => hw.bytes 0 rfl (by omega))).mono ?_
  rintro _ w4 ⟨rfl, h5⟩
  refine ⟨_, rfl, (wrap_at h5 _ _).mono ?_⟩
  intro v2 w5 h6
  have hnil2 := h6.errNil 0 rfl
  refine ⟨_, rfl, ?_⟩
  rcases hM1.write (i := (c + 1) % 2) (by have := Nat.mod_lt (c + 1) (y := 2) (by omega); omega) hml with ⟨e9, hq, keep, torn, g⟩ | ⟨e0, hM2⟩
  · rw [e9] at h6 hnil2
    exact ⟨_, hnil2, cond_t rfl ⟨_, 9, Saved.ofGone hq g (hH1.mark hbl hA1 keep torn), (h6.less 2 rfl).less 2 rfl⟩⟩
  rw [e0] at h6 hnil2
  refine ⟨_, hnil2, cond_f' rfl ?_⟩
  have h7 := h6.drop
  refine ⟨p, rfl, _, h7.cell0 3 rfl, (dsync_at h7 (hM2.wf (by simp))).mono ?_⟩
  rintro _ w6 ⟨rfl, h8⟩
  refine ⟨_, rfl, (wrap_at h8 _ _).mono ?_⟩
  intro v3 w7 h9
  refine ⟨_, rfl, ?_⟩
  rcases hM2.sync with ⟨e9, hq, keep, torn, g⟩ | ⟨e0, hM3⟩
  · rw [e9] at h9
    exact ⟨_, 9, Saved.ofGone hq g (hH1.mark hbl hA1 keep torn), (h9.less 2 rfl).less 2 rfl⟩
  · rw [e0] at h9
    refine ⟨_, 0, .done rfl ⟨rfl, hM3.pend, hM3.on, hM3.keep, hM3.quiet⟩ ?_, (h9.less 2 rfl).less 2 rfl⟩
    rw [hM3.safe]
    exact hH1.next hbl hA1

set_option maxRecDepth 100000 in
/-- a save -/
theorem save_at (hH : Holds st.safe c S) (hM : Mid st.safe [] q st) (hc : c < 2 ^ 40) (hbl : b.length ≤ 8000) (hcap : sb.len ≤ sb.cap) (hI : ∀ L w', At W w' (L ++ R) → Ints .u8 w' sb b) (h : At W w (diskA d st :: boxA p [.pointer (some d), V] :: R)) :
    CallsV Tryd.prog n_store_Store_save #[.pointer (some p), .slice sb.a sb.len sb.cap] w (SavePost W R d p V st.safe c S b q) := by
  refine store_Store_save.lift ?_
  unfold store_Store_save.main
  have hl := hH.len
  have hbi := (hI [_, _] w h).len
  refine (last_at hH hM.pend hM.on hc h).mono ?_
  rintro _ w13 ⟨rfl, h13⟩
  refine ⟨_, _, _, rfl, ?_⟩
  intro w14
  have h14 := h13.box [.int .u64 0, .int .i64 0] 64
  obtain ⟨wr, h15⟩ := h14.set2 0 rfl (.int .u64 (c : Int)) (.int .i64 (S.length : Int))
  refine ⟨wr, _, rfl, cond_f' rfl ⟨_, h15.cell0 0 rfl, ?_⟩⟩
  have ec : IntKind.u64.wrap ((c : Int) + 1) = ((c + 1 : Nat) : Int) := by rw [IntKind.wrap_u64]; omega
  have eb : ((sb.len : Nat) : Int) = (b.length : Int) := by omega
  rw [ec, eb]
  obtain ⟨wr', h16⟩ := h15.set2 0 rfl (.int .u64 ((c + 1 : Nat) : Int)) (.int .i64 (b.length : Int))
  refine ⟨wr', ?_⟩
  have h17 := h16.swap
  generalize setCells (newA w13) [.int .u64 ((c + 1 : Nat) : Int), .int .i64 (b.length : Int)] 0 _ = w17 at h17 ⊢
  clear h16 h15 h14 wr wr'
  clear w14
  generalize newA w13 = m at h17 ⊢
  have h17 : At W w17 (diskA d st :: boxA m [.int .u64 ((c + 1 : Nat) : Int), .int .i64 (b.length : Int)] :: boxA p [.pointer (some d), V] :: R) := h17
  unfold store_Store_save.l2
  refine ⟨fun t w' => ∃ (k : Nat) (st' : DS), t = k ∧ 64 * k < b.length + 64 ∧ Mid st.safe (areaW c b k) q st' ∧ At W w' (diskA d st' :: boxA m [.int .u64 ((c + 1 : Nat) : Int), .int .i64 (b.length : Int)] :: boxA p [.pointer (some d), V] :: R), fun t _ => 200 - t.toNat, ⟨0, st, rfl, by omega, hM, h17⟩, ?_⟩
  clear h17 h13 h hM
  rintro _ w1 ⟨k, st1, rfl, hk, hM1, h1⟩
  unfold store_Store_save.b2
  have e64 : IntKind.i64.wrap ((k : Int) * 64) = ((64 * k : Nat) : Int) := by rw [w64 (by omega)]; omega
  rw [e64]
  refine cond_d (fun hlt => ?_) fun hge => save_c1 hH hM1 (by omega) (by omega) hc hbl h1
  have hkb : 64 * k < b.length := by omega
  refine ⟨by omega, by omega, by omega, by omega, ?_⟩
  intro w8
  have hb8 : Below w1.heap.size w1 w8 := below_alloc _ _
  have ho8 : OwnI w1.heap.size 5 .u8 w8 ⟨some (newA w1), 64, 64⟩ (List.replicate 64 0) := make_ints (n := 64) (by unfold maxLen; omega)
  clear_value w8
  have i8 := Ints.drop (hI [_, _, _] w8 (h1.keep hb8)) (m := 64 * k) (by omega) hcap
  obtain ⟨w9, run, ho9, hg, hsz⟩ := copy_ints (t := 30) (t' := 30) (ty := 3) Tryd.underlying30 info5 ho8 i8 (by simp)
  have hb9 : Below w1.heap.size w1 w9 := hb8.grown hg (by have := hb8.size; omega) fun j hj => (ho8.lt j hj).1
  rw [List.length_replicate] at ho9
  have ho9 : OwnI w1.heap.size 5 .u8 w9 ⟨some (newA w1), 64, 64⟩ (chunk b k) := by
    rw [← chunk_pad (by omega)]
    exact ho9
  have h9 := (h1.own ho9 hb9).drew
  refine ⟨by omega, by omega, by omega, by omega, _, w9, run, ?_⟩
  refine ⟨fun u => u.cell? p = some (.pointer (some d)) ∧ u.cell? m = some (.int .u64 ((c + 1 : Nat) : Int)), ⟨h9.cell0 3 rfl, h9.cell0 2 rfl⟩, p, rfl, _, fun u hu => hu.1, _, fun u hu => hu.2, (place_spec (c + 1) k (by omega)).mono ?_⟩
  rintro _ w10 ⟨rfl, hw⟩
  subst hw
  have hcl := chunk_len (S := b) (k := k) (by omega)
  refine ⟨_, rfl, ⟨h9.cell0 3 rfl, h9.cell0 2 rfl⟩, ?_⟩
  refine (dwrite_at h9.swap (hM1.wf (by rw [areaW_len]; omega)) (s := ⟨some (newA w1), 64, 64⟩) (bs := chunk b k) _ (by omega) (fun w' hw => hw.bytes 0 rfl (by omega))).mono ?_
  rintro _ w11 ⟨rfl, h11⟩
  refine ⟨_, rfl, (wrap_at h11 _ _).mono ?_⟩
  intro v w12 h12
  have hnil := h12.errNil 0 rfl
  refine ⟨_, rfl, ?_⟩
  have hbase : base (c + 1) + k < 252 := by
    have := Nat.mod_lt (c + 1) (y := 2) (by omega)
    unfold base
    omega
  rcases hM1.write (i := base (c + 1) + k) (by omega) hcl with ⟨e9, hq, keep, torn, g⟩ | ⟨e0, hM2⟩
  · rw [e9] at h12 hnil
    rw [← areaW_succ] at g
    exact ⟨_, hnil, cond_t rfl ⟨_, 9, Saved.ofGone hq g (.inl (hH.crash (by omega) keep torn)), (h12.less 2 rfl).less 2 rfl⟩⟩
  · rw [e0] at h12 hnil
    rw [← areaW_succ] at hM2
    refine ⟨_, hnil, cond_f' rfl ?_⟩
    dsimp only
    rw [inc (by omega)]
    exact ⟨⟨rfl, rfl, rfl, k + 1, _, rfl, by omega, hM2, h12.drop.less 1 rfl⟩, by (try dsimp only); omega⟩
end

end Go.Proofs.YtledhokhcoeeeaaDoor
