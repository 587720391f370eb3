/-
  A store: opened, saved, told; a new disk has no state.
-/
import Derived.Test.YtledhokhcoeeeaaDoorStC
import Derived.Lib.SlBytesConst
import Derived.Laws.BytesArg
set_option linter.unusedVariables false
set_option linter.unusedVariables false
set_option linter.unusedSimpArgs false
namespace Go.Proofs.YtledhokhcoeeeaaDoor
open Go.Lf Go.RowKit

/-- a store in memory: its disk's place, and its state -/
def storeA (d p : Addr) (S : List Int) : Asn := exA (fun _ : Sl => True) fun sl => [boxA p [.pointer (some d), .slice sl.a sl.len sl.cap], intsA .u8 sl S]

section
variable {W w w' : World} {L L' R X : List Asn} {d p a m : Addr} {st st1 : DS} {V : Value} {c : Nat} {S b : List Int} {q : Bool} {sb : Sl}

theorem At.storeOut (h : At W w (storeA d p S :: R)) : ∃ sl : Sl, At W w (boxA p [.pointer (some d), .slice sl.a sl.len sl.cap] :: intsA .u8 sl S :: R) := by
  obtain ⟨sl, _, hs⟩ := h.s.unfold
  exact ⟨sl, hs, h.b, h.g⟩
theorem At.storeIn {sl : Sl} (h : At W w (boxA p [.pointer (some d), .slice sl.a sl.len sl.cap] :: intsA .u8 sl S :: R)) : At W w (storeA d p S :: R) := ⟨Sep.fold (Φ := fun sl : Sl => [boxA p [.pointer (some d), .slice sl.a sl.len sl.cap], intsA .u8 sl S]) sl trivial h.s, h.b, h.g⟩
theorem At.intsAt (h : At W w L) (k : Nat) {s : Sl} {xs : List Int} (hk : L[k]? = some (intsA .u8 s xs)) : Ints .u8 w s xs := by
  obtain ⟨F, hA, _⟩ := h.s.get k hk
  exact hA.1
theorem At.intsNew (h : At W w L) (hb : Below w.heap.size w w') {t : Sl} {ys : List Int} (hI : Ints .u8 w' t ys) (ha : ∀ q, t.a = some q → w.heap.size ≤ q.block ∧ q.block < w'.heap.size) : At W w' (intsA .u8 t ys :: L) :=
  h.go (h.s.new (F := fun i => w.heap.size ≤ i ∧ i < w'.heap.size) ⟨hI, fun q hq _ => ha q hq⟩ (fun i hi => hi) hb) (hb.mono h.s.le)
theorem byInts {xs : List Int} {s : Sl} (h : At W w (byA s xs :: R)) (hx : xs.length ≤ 9223372036854775807) : At W w (intsA .u8 s xs :: R) := At.front_part h (h.bytes 0 rfl hx) fun q hq => ⟨q, hq, rfl⟩

/-- the state is told -/
theorem state_at (h : At W w (diskA d st :: storeA d p S :: R)) (hS : S.length ≤ 1000000000) : CallsV Tryd.prog n_store_Store_State #[.pointer (some p)] w fun v w' => ∃ s : Sl, v = .slice s.a s.len s.cap ∧ At W w' (byA s S :: diskA d st :: storeA d p S :: R) := by
  obtain ⟨sl, h1⟩ := h.swap.storeOut
  refine store_Store_State.lift ?_
  unfold store_Store_State.main
  refine ⟨p, rfl, _, _, _, h1.cell 0 rfl 1 rfl, (cloneB_spec (h1.intsAt 1 rfl) hS).mono ?_⟩
  rintro _ w' ⟨s, rfl, ho, hb⟩
  exact ⟨_, _, _, rfl, s, rfl, h.own ho hb⟩

/-- what is left behind a Save -/
inductive SavedA (W : World) (R : List Asn) (d p : Addr) (safe : List (Option (List Int))) (c : Nat) (S b : List Int) (q : Bool) (v : Value) (w' : World) : Prop where
  | done (st' : DS) (hv : v = .int .i64 0) (h1 : Mid st'.safe [] q st') (h2 : Holds st'.safe (c + 1) b) (h : At W w' (diskA d st' :: storeA d p b :: R)) : SavedA W R d p safe c S b q v w'
  | gone (st' : DS) (hv : v = .int .i64 9) (hq : q = false) (h1 : Gone st'.safe st') (h2 : Holds st'.safe c S ∨ Holds st'.safe (c + 1) b) (h : At W w' (diskA d st' :: R)) : SavedA W R d p safe c S b q v w'

theorem dOff_at (h : At W w (diskA d st :: R)) : CallsV Tryd.prog n_disk_Disk_Off #[.pointer (some d)] w fun v w' => v = .bool st.off ∧ w' = w := by
  refine (off_spec h.s).mono ?_
  rintro _ _ ⟨rfl, rfl⟩
  exact ⟨rfl, rfl⟩

set_option maxRecDepth 100000 in
theorem Save_at {S' : List Int} (hH : Holds st.safe c S) (hM : Mid st.safe [] q st) (hc : c < 2 ^ 40) (hbl : b.length ≤ 8000) (hcap : sb.len ≤ sb.cap) (hI : ∀ L w', At W w' (L ++ R) → Ints .u8 w' sb b) (h : At W w (diskA d st :: storeA d p S' :: R)) :
    CallsV Tryd.prog n_store_Store_Save #[.pointer (some p), .slice sb.a sb.len sb.cap] w (SavedA W R d p st.safe c S b q) := by
  obtain ⟨sl, h1⟩ := h.swap.storeOut
  have h1 : At W w (diskA d st :: boxA p [.pointer (some d), .slice sl.a sl.len sl.cap] :: intsA .u8 sl S' :: R) := h1.front 2 rfl
  have hbi := (hI [_, _] w h).len
  refine store_Store_Save.lift ?_
  unfold store_Store_Save.main
  refine ⟨p, rfl, _, h1.cell0 1 rfl, (dOff_at h1).mono ?_⟩
  rintro _ w1 ⟨rfl, hw⟩
  subst hw
  refine ⟨_, rfl, cond_f' hM.on ?_⟩
  refine cond_d (fun hgt => by omega) fun _ => ?_
  refine (save_at hH hM hc hbl hcap (R := intsA .u8 sl S' :: R) (fun L w' hw => hI (L ++ [_]) w' (by rw [List.append_assoc]; exact hw)) h1).mono ?_
  rintro v w2 ⟨st', e, hsv, h2⟩
  have hnil := h2.errNil 0 rfl
  refine ⟨_, rfl, _, hnil, ?_⟩
  rcases hsv with ⟨rfl, m1, m2⟩ | ⟨rfl, hq, g1, g2⟩
  · refine cond_f' rfl ?_
    have h3 := h2.drop
    refine (cloneB_spec (hI [_, _, _] w2 h3) (by omega)).mono ?_
    rintro _ w4 ⟨s4, rfl, ho, hb⟩
    have h4 := h3.own ho hb
    have h5 := byInts h4 (by omega)
    have hs := h5.s.set 2 rfl (j := 1) (by simp) (.slice s4.a s4.len s4.cap)
    refine ⟨_, _, _, rfl, p, rfl, h5.s.wr 2 rfl (j := 1) (by simp), .done st' rfl m1 m2 ?_⟩
    have h6 : At W (w4.setCell (p.add 1) (.slice s4.a s4.len s4.cap)) (intsA .u8 s4 b :: diskA d st' :: boxA p [.pointer (some d), .slice s4.a s4.len s4.cap] :: intsA .u8 sl S' :: R) := h5.go2 hs
    have h7 : At W (w4.setCell (p.add 1) (.slice s4.a s4.len s4.cap)) (boxA p [.pointer (some d), .slice s4.a s4.len s4.cap] :: intsA .u8 s4 b :: diskA d st' :: R) := (h6.less 3 rfl).front 2 rfl
    exact h7.storeIn.swap
  · refine cond_t rfl ((number_at h2 0 rfl (by omega)).mono ?_)
    rintro _ w3 ⟨rfl, h3⟩
    exact ⟨_, rfl, .gone st' rfl hq g1 g2 (((h3.drop).less 1 rfl).less 1 rfl)⟩

set_option maxRecDepth 100000 in
/-- more than may be is refused -/
theorem Save_long (hoff : st.off = false) (hbl : 8000 < sb.len) (h : At W w (diskA d st :: storeA d p S :: R)) : CallsV Tryd.prog n_store_Store_Save #[.pointer (some p), .slice sb.a sb.len sb.cap] w fun v w' => v = .int .i64 2 ∧ w' = w := by
  obtain ⟨sl, h1⟩ := h.swap.storeOut
  refine store_Store_Save.lift ?_
  unfold store_Store_Save.main
  refine ⟨p, rfl, _, h1.cell0 0 rfl, (dOff_at h).mono ?_⟩
  rintro _ w1 ⟨rfl, hw⟩
  subst hw
  exact ⟨_, rfl, cond_f' hoff (cond_d (fun _ => ⟨rfl, rfl⟩) fun hgt => absurd (by omega) hgt)⟩
set_option maxRecDepth 100000 in
theorem Save_off (hoff : st.off = true) (h : At W w (diskA d st :: storeA d p S :: R)) : CallsV Tryd.prog n_store_Store_Save #[.pointer (some p), .slice sb.a sb.len sb.cap] w fun v w' => v = .int .i64 9 ∧ w' = w := by
  obtain ⟨sl, h1⟩ := h.swap.storeOut
  refine store_Store_Save.lift ?_
  unfold store_Store_Save.main
  refine ⟨p, rfl, _, h1.cell0 0 rfl, (dOff_at h).mono ?_⟩
  rintro _ w1 ⟨rfl, hw⟩
  subst hw
  exact ⟨_, rfl, cond_t hoff ⟨rfl, rfl⟩⟩

/-! opened -/

set_option maxRecDepth 100000 in
theorem open_off (hoff : st.off = true) (h : At W w (diskA d st :: R)) : CallsV Tryd.prog n_store_Open #[.pointer (some d)] w fun v w' => v = .tuple #[.pointer none, .int .i64 9] ∧ w' = w := by
  refine store_Open.lift ?_
  unfold store_Open.main
  refine (dOff_at h).mono ?_
  rintro _ w1 ⟨rfl, hw⟩
  subst hw
  exact ⟨_, rfl, cond_t hoff ⟨rfl, rfl⟩⟩
set_option maxRecDepth 100000 in
theorem open_small (hoff : st.off = false) (hl : st.safe.length < 300) (h : At W w (diskA d st :: R)) : CallsV Tryd.prog n_store_Open #[.pointer (some d)] w fun v w' => v = .tuple #[.pointer none, .int .i64 7] ∧ w' = w := by
  refine store_Open.lift ?_
  unfold store_Open.main
  refine (dOff_at h).mono ?_
  rintro _ w1 ⟨rfl, hw⟩
  subst hw
  refine ⟨_, rfl, cond_f' hoff ((sectors_spec h.s).mono ?_)⟩
  rintro _ w2 ⟨rfl, hw⟩
  subst hw
  exact ⟨_, rfl, cond_d (fun _ => ⟨rfl, rfl⟩) fun hh => absurd (by omega) hh⟩

set_option maxRecDepth 100000 in
theorem open_at (hH : Holds st.safe c S) (hp : st.pend = []) (ho : st.off = false) (hc : c < 2 ^ 40) (h : At W w (diskA d st :: R)) :
    CallsV Tryd.prog n_store_Open #[.pointer (some d)] w fun v w' => ∃ p : Addr, v = .tuple #[.pointer (some p), .int .i64 0] ∧ At W w' (diskA d st :: storeA d p S :: R) := by
  have hl := hH.len
  refine store_Open.lift ?_
  unfold store_Open.main
  refine (dOff_at h).mono ?_
  rintro _ w1 ⟨rfl, hw⟩
  subst hw
  refine ⟨_, rfl, cond_f' ho ((sectors_spec h.s).mono ?_)⟩
  rintro _ w2 ⟨rfl, hw⟩
  subst hw
  refine ⟨_, rfl, cond_d (fun hh => by omega) fun _ => ?_⟩
  intro w4
  have h4 : At W w4 (diskA d st :: boxA (newA w1) [.pointer (some d), .slice none 0 0] :: R) := (At.box h [.pointer (some d), .slice none 0 0] 61).swap
  clear_value w4
  generalize newA w1 = p at h4 ⊢
  refine (last_at hH hp ho hc h4).mono ?_
  rintro _ w5 ⟨rfl, h5⟩
  refine ⟨_, _, _, rfl, ?_⟩
  intro w6
  have h6 := h5.box [.int .u64 0, .int .i64 0] 64
  obtain ⟨wr, h7⟩ := h6.set2 0 rfl (.int .u64 (c : Int)) (.int .i64 (S.length : Int))
  refine ⟨wr, _, rfl, cond_t rfl ⟨_, h7.cell0 0 rfl, _, h7.cell 0 rfl 1 rfl, ?_⟩⟩
  refine (sread_at hH hp ho (h7.less 0 rfl)).mono ?_
  rintro _ w8 ⟨t, rfl, h8⟩
  have h8 : At W w8 (boxA p [.pointer (some d), .slice none 0 0] :: intsA .u8 t S :: diskA d st :: R) := h8.front 2 rfl
  have hs := h8.s.set 0 rfl (j := 1) (by simp) (.slice t.a t.len t.cap)
  refine ⟨_, _, _, _, rfl, p, rfl, h8.s.wr 0 rfl (j := 1) (by simp), ?_⟩
  unfold store_Open.c1
  exact ⟨_, rfl, cond_f' rfl ⟨p, rfl, (At.storeIn (h8.go2 hs)).swap⟩⟩

/-! copies, and what is spoilt -/

theorem twin_at (h : At W w R) {s : Sl} {xs : List Int} (hI : Ints .u8 w s xs) (hx : xs.length ≤ 1000000000) : CallsV Tryd.prog n_trystkeep_Twin #[.slice s.a s.len s.cap] w fun v w' => ∃ t : Sl, v = .slice t.a t.len t.cap ∧ At W w' (byA t xs :: R) := by
  refine trystkeep_Twin.lift ?_
  unfold trystkeep_Twin.main
  obtain ⟨i, hi, hz, hsz, hby⟩ := t5
  have hl := hI.len
  obtain ⟨t, w', run, _, ho, hb⟩ := twin_go (ty := 30) (t := 30) (m := xs.length) (news := xs.map (Value.int .u8)) (s := s) (w := w) Tryd.underlying30 hi hz hsz hby rfl (by omega) hl (by simp) (fun a ha => ints_news hI ha) (fun hn => by
    cases xs with
    | nil => rfl
    | cons x r => obtain ⟨q, hq, _⟩ := hI.cell 0 x rfl; rw [hn] at hq; cases hq) one_ints (by unfold maxLen; omega) (by omega)
  exact ⟨_, _, _, w', run, t, rfl, h.own ho hb⟩

theorem spoil_at {s : Sl} {xs : List Int} (hx : xs.length ≤ 1000000000) (h : At W w (byA s xs :: R)) : CallsV Tryd.prog n_trystkeep_SpoilBytes #[.slice s.a s.len s.cap] w fun v w' => v = .tuple #[] ∧ At W w' R := by
  refine trystkeep_SpoilBytes.lift ?_
  unfold trystkeep_SpoilBytes.main trystkeep_SpoilBytes.l1
  refine ⟨fun t w' => ∃ (i : Nat) (ys : List Int), t = i ∧ ys.length = xs.length ∧ i ≤ xs.length ∧ At W w' (byA s ys :: R), fun t _ => xs.length - t.toNat, ⟨0, xs, rfl, rfl, by omega, h⟩, ?_⟩
  clear h
  rintro _ w1 ⟨i, ys, rfl, hy, hi, h1⟩
  have hl := h1.len 0 rfl
  unfold trystkeep_SpoilBytes.b1
  refine cond_d (fun hlt => ?_) fun hge => ⟨rfl, h1.drop⟩
  obtain ⟨q, hq, hc⟩ := h1.s.rowCell 0 rfl (j := i) (by simp; omega)
  have hci := hc i (.int .u8 ys[i]) (by rw [List.getElem?_map, List.getElem?_eq_getElem (by omega)]; rfl)
  obtain ⟨wr, h2⟩ := h1.bset 0 rfl hq (j := i) (by omega) (IntKind.u8.wrap (ys[i] + 101))
  refine ⟨by omega, hlt, q, hq, _, by rw [Int.toNat_natCast]; exact hci, by omega, hlt, q, hq, by rw [Int.toNat_natCast]; exact wr, ?_⟩
  rw [Int.toNat_natCast i]
  dsimp only
  rw [inc (by omega)]
  exact ⟨⟨rfl, i + 1, _, rfl, by rw [List.length_set]; exact hy, by omega, h2⟩, by (try dsimp only); omega⟩

theorem bytes_at {s t : Sl} {xs ys : List Int} (h : At W w R) (h1 : Ints .u8 w s xs) (h2 : Ints .u8 w t ys) : CallsV Tryd.prog n_trystkeep_Bytes #[.slice s.a s.len s.cap, .slice t.a t.len t.cap] w fun v w' => v = .bool (decide (xs = ys)) ∧ At W w' R := by
  refine (bytes_spec h1 h2).mono ?_
  rintro _ w' ⟨rfl, hs⟩
  exact ⟨rfl, h.same hs⟩

theorem new_at (h : At W w R) (n : Nat) (h1 : 1 ≤ n) (h2 : n ≤ 512) : CallsV Tryd.prog n_disk_New #[.int .i64 (n : Int)] w fun v w' => ∃ d : Addr, v = .tuple #[.pointer (some d), .int .i64 0] ∧ At W w' (diskA d (newD n) :: R) := by
  refine (new_spec h.s n h1 h2).mono ?_
  rintro _ w' ⟨d, rfl, hs, hb⟩
  exact ⟨d, rfl, h.go hs hb⟩
theorem crash_at (h : At W w (diskA d st :: R)) (hp : st.pend = []) (torn : Int) : CallsV Tryd.prog n_disk_Disk_Crash #[.pointer (some d), .slice none 0 0, .int .i64 torn] w fun v w' => v = .tuple #[] ∧ At W w' (diskA d (crashD st [] torn) :: R) := by
  refine (crash_spec h.s (keep := ⟨none, 0, 0⟩) (kl := []) torn (by rw [hp]; simp) fun _ _ _ => BoolsR.nil).mono ?_
  rintro _ w' ⟨rfl, h1, h2⟩
  exact ⟨rfl, h.go h1 h2⟩
theorem start_at (h : At W w (diskA d st :: R)) : CallsV Tryd.prog n_disk_Disk_Start #[.pointer (some d)] w fun v w' => v = .tuple #[] ∧ At W w' (diskA d (startD st) :: R) := by
  refine (start_spec h.s).mono ?_
  rintro _ w' ⟨rfl, h1, h2⟩
  exact ⟨rfl, h.go h1 h2⟩
end

theorem Mid.new (n : Nat) : Mid (newD n).safe [] true (newD n) := ⟨rfl, rfl, rfl, (fun t h => by cases h), fun _ => rfl⟩

end Go.Proofs.YtledhokhcoeeeaaDoor

/-
  A new disk has no state.
-/
set_option linter.unusedVariables false
set_option linter.unusedSimpArgs false
namespace Go.Proofs.YtledhokhcoeeeaaDoor
open Go.Lf Go.RowKit

section
variable {W w w' : World} {L L' R X : List Asn} {d p a m : Addr} {st st1 : DS} {V : Value} {c : Nat} {S b : List Int} {q : Bool} {sb : Sl}

/-- saved, where no power goes -/
theorem Save_quiet (hH : Holds st.safe c S) (hM : Mid st.safe [] true st) (hc : c < 2 ^ 40) (hbl : b.length ≤ 8000) (hcap : sb.len ≤ sb.cap) (hI : ∀ L w', At W w' (L ++ R) → Ints .u8 w' sb b) {S' : List Int} (h : At W w (diskA d st :: storeA d p S' :: R)) :
    CallsV Tryd.prog n_store_Store_Save #[.pointer (some p), .slice sb.a sb.len sb.cap] w fun v w' => ∃ st' : DS, v = .int .i64 0 ∧ Mid st'.safe [] true st' ∧ Holds st'.safe (c + 1) b ∧ At W w' (diskA d st' :: storeA d p b :: R) := by
  refine (Save_at hH hM hc hbl hcap hI h).mono ?_
  rintro v w' hs
  rcases hs with ⟨st', hv, h1, h2, h3⟩ | ⟨st', hv, hq, _⟩
  · exact ⟨st', hv, h1, h2, h3⟩
  · cases hq

set_option maxRecDepth 100000 in
theorem wakes14_at (h : At W w R) : CallsV Tryd.prog n_trystlaw14_wakes #[] w fun v w' => v = .bool true ∧ At W w' R := by
  refine trystlaw14_wakes.lift ?_
  unfold trystlaw14_wakes.main
  refine (new_at h 512 (by omega) (by omega)).mono ?_
  rintro _ w1 ⟨d, rfl, h1⟩
  refine ⟨_, _, rfl, cond_n (fun hne => absurd rfl hne) fun _ => cond_f' rfl ?_⟩
  have hH : Holds (newD 512).safe 0 [] := Holds.new (by omega)
  have hM := Mid.new 512
  generalize newD 512 = st at h1 hH hM
  unfold trystlaw14_wakes.c2
  refine (open_at hH hM.pend hM.on (by omega) h1).mono ?_
  rintro _ w2 ⟨p, rfl, h2⟩
  refine ⟨_, _, rfl, cond_n (fun hne => absurd rfl hne) fun _ => cond_f' rfl ?_⟩
  refine (state_at h2 (by simp)).mono ?_
  rintro _ w3 ⟨s, rfl, h3⟩
  have hl := h3.len 0 rfl
  refine ⟨_, _, _, rfl, cond_d (fun hgt => by simp at hl; omega) fun _ => ?_⟩
  intro w6
  have h4 := h3.drop
  have kc := Lib.run_convert_bytes_const (P := Tryd.prog) w3 30 5 #[.int .u8 120] 1 1 Tryd.underlying30 Tryd.underlying5
  refine ⟨_, _, _, w3.alloc (.cells #[.int .u8 120] 5 (1, 2)), by
    show (do pure (.value (← convert 30 30 (.slice (some ⟨w3.heap.size, 0, none⟩) 1 1))) : Sem Next).run Tryd.prog (w3.alloc (.cells #[.int .u8 120] 5)) = .ok (.value (.slice (some ⟨w3.heap.size, 0, none⟩) 1 1)) _
    simp only [Sem.run_bind, kc, Result.andThen]
    rfl, ?_⟩
  have hcell : (w3.alloc (.cells #[.int .u8 120] 5 (1, 2))).cell? ⟨w3.heap.size, 0, none⟩ = some (.int .u8 120) := by
    simp [World.cell?, World.alloc, -World.alloc_eq, Array.getElem?_push]
  have hI : Ints .u8 (w3.alloc (.cells #[.int .u8 120] 5 (1, 2))) ⟨some ⟨w3.heap.size, 0, none⟩, 1, 1⟩ [120] := by
    refine ⟨rfl, by show (1 : Nat) ≤ _; omega, fun i x hx => ?_⟩
    have hi := (List.getElem?_eq_some_iff.1 hx).1
    have hi : i = 0 := by simpa using hi
    subst hi
    obtain rfl : 120 = x := by simpa using hx
    exact ⟨_, rfl, by show w3.heap.size < _; rw [size_alloc]; omega, hcell⟩
  have h5 := h4.intsNew (below_alloc w3 (.cells #[.int .u8 120] 5 (1, 2))) hI (fun q hq => by
    obtain rfl := Option.some.inj hq
    exact ⟨Nat.le_refl _, by show w3.heap.size < _; rw [size_alloc]; omega⟩)
  have h6 : At W _ (diskA d st :: storeA d p [] :: intsA .u8 ⟨some ⟨w3.heap.size, 0, none⟩, 1, 1⟩ [120] :: R) := h5.perm (.trans (.swap _ _ _) (.cons _ (.swap _ _ _)))
  refine (Save_quiet hH hM (by omega) (sb := ⟨some ⟨w3.heap.size, 0, none⟩, 1, 1⟩) (b := [120]) (by simp) (by simp) (fun L w' hw => hw.dropL.intsAt 0 rfl) h6).mono ?_
  rintro _ w7 ⟨st', rfl, hM', hH', h7⟩
  refine ⟨_, rfl, cond_n (fun hne => absurd rfl hne) fun _ => ?_⟩
  unfold trystlaw14_wakes.c1
  refine (open_at hH' hM'.pend hM'.on (by omega) ((h7.less 1 rfl).less 1 rfl)).mono ?_
  rintro _ w8 ⟨p', rfl, h8⟩
  refine ⟨_, _, rfl, cond_t rfl (cond_t rfl ((state_at h8 (by simp)).mono ?_))⟩
  rintro _ w9 ⟨s9, rfl, h9⟩
  have hI9 := h9.bytes 0 rfl (by simp)
  obtain ⟨q9, hq9, _, hc9⟩ := hI9.cell 0 120 rfl
  have hl9 := h9.len 0 rfl
  have hl9 : s9.len = 1 := hl9
  refine ⟨_, _, _, rfl, ⟨#[120]⟩, w9, ?_, ?_⟩
  · have := run_convert_bytes_back (P := Tryd.prog) w9 30 9 5 q9 s9.cap [120] Tryd.underlying30 Tryd.underlying5 Tryd.underlying9 (fun j hj => by
      have : j = 0 := by simpa using hj
      subst this
      exact hc9)
    rw [hq9, hl9]
    simp only [Sem.run_bind]
    have this : (convert 30 9 (.slice (some q9) 1 s9.cap)).run Tryd.prog w9 = .ok (.string ⟨#[120]⟩) w9 := this
    rw [this]
    rfl
  · exact ⟨by simp, h9.drop.less 0 rfl |>.less 0 rfl⟩
end

end Go.Proofs.YtledhokhcoeeeaaDoor
