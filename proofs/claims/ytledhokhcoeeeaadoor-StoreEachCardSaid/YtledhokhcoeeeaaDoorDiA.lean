/-
  Disk: what a disk is in memory; what its operations answer; reading it.
-/
import Derived.Test.YtledhokhcoeeeaaDoorLiftA
import Derived.Test.YtledhokhcoeeeaaDoorDiFns
set_option linter.unusedVariables false
set_option linter.unusedVariables false
set_option linter.unusedSimpArgs false
namespace Go.Proofs.YtledhokhcoeeeaaDoor
open Go.Lf Go.RowKit

/-! what a disk is, and what is answered -/

structure DS where
  safe : List (Option (List Int))
  pend : List (Nat × List Int)
  off : Bool
  trip : Option (Int × List Bool × Int)

def nowOf (safe : List (Option (List Int))) (pend : List (Nat × List Int)) : List (Option (List Int)) := pend.foldl (fun l p => l.set p.1 (some p.2)) safe
def wrongD (st : DS) (i : Int) : Int := if st.off = true then 9 else if i < 0 ∨ (st.safe.length : Int) ≤ i then 1 else 0
def readD (st : DS) (i : Int) : List Int × Int := if wrongD st i ≠ 0 then ([], wrongD st i) else
  match (nowOf st.safe st.pend)[i.toNat]?.getD none with
  | none => ([], 10)
  | some b => (b, 0)
def crashSafe (keep : List Bool) (torn : Int) : Nat → List (Nat × List Int) → List (Option (List Int)) → List (Option (List Int))
  | _, [], s => s
  | k, p :: r, s => crashSafe keep torn (k + 1) r (if (k : Int) = torn then s.set p.1 none else if keep[k]?.getD false = true then s.set p.1 (some p.2) else s)
def crashD (st : DS) (keep : List Bool) (torn : Int) : DS := if st.off = true then st else ⟨crashSafe keep torn 0 st.pend st.safe, [], true, none⟩
def tripsD (st : DS) : Bool × DS := match st.trip with
  | none => (false, st)
  | some (n, keep, torn) => if n - 1 > 0 then (false, { st with trip := some (n - 1, keep, torn) }) else (true, crashD { st with trip := some (n - 1, keep, torn) } keep torn)
def addD (st : DS) (i : Nat) (b : List Int) : DS := { st with pend := st.pend ++ [(i, b)] }
def writeD (st : DS) (i : Int) (b : List Int) : Int × DS := if wrongD st i ≠ 0 then (wrongD st i, st) else if b.length ≠ 64 then (2, st) else
  (if (tripsD (addD st i.toNat b)).1 = true then 9 else 0, (tripsD (addD st i.toNat b)).2)
def syncD (st : DS) : Int × DS := if st.off = true then (9, st) else if (tripsD st).1 = true then (9, (tripsD st).2) else
  (0, { (tripsD st).2 with safe := nowOf (tripsD st).2.safe (tripsD st).2.pend, pend := [] })
def startD (st : DS) : DS := { st with off := false }
def tripD (st : DS) (n : Int) (keep : List Bool) (torn : Int) : DS := { st with trip := if n ≥ 1 then some (n, keep, torn) else none }

/-! a disk in memory -/

structure Sc where
  s : Sl
  xs : List Int
  torn : Bool
def Sc.cells (x : Sc) : List Value := [.slice x.s.a x.s.len x.s.cap, .bool x.torn]
def Sc.val (x : Sc) : Option (List Int) := if x.torn = true then none else some x.xs
structure Wt where
  i : Nat
  s : Sl
  xs : List Int
def Wt.cells (x : Wt) : List Value := [.int .i64 (x.i : Int), .slice x.s.a x.s.len x.s.cap]
def Wt.val (x : Wt) : Nat × List Int := (x.i, x.xs)
theorem Sc.w (x : Sc) : x.cells.length = 2 := rfl
theorem Wt.w (x : Wt) : x.cells.length = 2 := rfl

structure DC where
  sS : Sl
  sN : Sl
  sP : Sl
  safe : List Sc
  now : List Sc
  pend : List Wt
  tp : Option Addr
  ks : Sl
  L : List (Sl × List Int)

def noneA : Asn where
  on _ _ := True
  loc := fun _ _ => trivial
  grow := fun _ _ => trivial
def boxO (p : Option Addr) (cs : List Value) : Asn := match p with
  | none => noneA
  | some q => boxA q cs
def tripC (t : Option (Int × List Bool × Int)) (ks : Sl) : List Value := match t with
  | none => []
  | some (n, _, torn) => [.int .i64 n, .slice ks.a ks.len ks.cap, .int .i64 torn]
def keepOf (t : Option (Int × List Bool × Int)) : List Bool := match t with
  | none => []
  | some (_, keep, _) => keep

def dl (d : Addr) (x : DC) (off : Bool) (t : Option (Int × List Bool × Int)) : List Asn :=
  [boxA d [.slice x.sS.a x.sS.len x.sS.cap, .slice x.sN.a x.sN.len x.sN.cap, .slice x.sP.a x.sP.len x.sP.cap, .bool off, .pointer x.tp],
   rowA 57 2 x.sS x.safe.length (flat Sc.cells x.safe), rowA 57 2 x.sN x.now.length (flat Sc.cells x.now), rowA 74 2 x.sP x.pend.length (flat Wt.cells x.pend),
   boxO x.tp (tripC t x.ks), rowA 4 1 x.ks (keepOf t).length ((keepOf t).map Value.bool), intsAll .u8 x.L]

def ScOk (L : List (Sl × List Int)) (y : Sc) : Prop := y.torn = true ∨ (y.torn = false ∧ (y.s, y.xs) ∈ L ∧ y.xs.length = 64)

structure DOk (x : DC) (st : DS) : Prop where
  safe : st.safe = x.safe.map Sc.val
  pend : st.pend = x.pend.map Wt.val
  now : nowOf st.safe st.pend = x.now.map Sc.val
  pos : 1 ≤ x.safe.length
  few : x.safe.length ≤ 512
  inS : ∀ y ∈ x.safe, ScOk x.L y
  inN : ∀ y ∈ x.now, ScOk x.L y
  inP : ∀ y ∈ x.pend, (y.s, y.xs) ∈ x.L ∧ y.xs.length = 64 ∧ y.i < x.safe.length
  tp0 : st.trip = none → x.tp = none
  tp1 : ∀ t, st.trip = some t → ∃ q, x.tp = some q

def Rng (st : DS) : Prop := ∀ t, st.trip = some t → 1 ≤ t.1 ∧ t.1 ≤ 9223372036854775807

def diskA (d : Addr) (st : DS) : Asn := exA (fun x => DOk x st ∧ Rng st) (fun x => dl d x st.off st.trip)

theorem nowOf_length : ∀ (p : List (Nat × List Int)) (s : List (Option (List Int))), (nowOf s p).length = s.length
  | [], _ => rfl
  | x :: r, s => by
    show (nowOf (s.set x.1 (some x.2)) r).length = _
    rw [nowOf_length r, List.length_set]

theorem DOk.lenN {x : DC} {st : DS} (h : DOk x st) : x.now.length = x.safe.length := by
  have := congrArg List.length h.now
  rw [nowOf_length, h.safe] at this
  simpa using this.symm

/-! the contracts of what only reads -/

theorem wrong_spec {B : Nat} {w : World} {d : Addr} {x : DC} {st : DS} {R : List Asn} (hx : DOk x st) (h : Sep B w (dl d x st.off st.trip ++ R)) (i : Int) :
    CallsV Tryd.prog n_disk_Disk_wrong #[.pointer (some d), .int .i64 i] w fun v w' => v = .int .i64 (wrongD st i) ∧ w = w' := by
  refine disk_Disk_wrong.lift ?_
  unfold disk_Disk_wrong.main
  have hl := (h.rowLen 1 rfl).1
  have hsl : st.safe.length = x.safe.length := by rw [hx.safe, List.length_map]
  refine ⟨d, rfl, st.off, h.cell 0 rfl 3 rfl, cond_c (fun ho => ⟨by rw [wrongD, if_pos ho], rfl⟩) fun ho => ?_⟩
  refine cond_d (fun hi => ⟨by rw [wrongD, if_neg (by rw [ho]; simp), if_pos (.inl hi)], rfl⟩) fun hi => ?_
  refine ⟨d, rfl, _, _, _, h.cell0 0 rfl rfl, ?_⟩
  intro t
  have e : wrongD st i = if (st.safe.length : Int) ≤ i then 1 else 0 := by
    rw [wrongD, if_neg (by rw [ho]; simp)]
    by_cases hc : (st.safe.length : Int) ≤ i
    · rw [if_pos (.inr hc), if_pos hc]
    · rw [if_neg (by omega), if_neg hc]
  rw [e]
  refine cond_d (fun hc => ⟨by rw [if_pos (by omega)], rfl⟩) fun hc => ⟨by rw [if_neg (by omega)], rfl⟩

theorem t5 : ∃ i, Tryd.prog.info? 5 = some i ∧ i.zero = some (.int .u8 0) ∧ i.size = 1 ∧ i.bytes = 1 := ⟨Tryd.t5, by kernel_rfl, by kernel_rfl, by kernel_rfl, by kernel_rfl⟩
theorem t4 : ∃ i, Tryd.prog.info? 4 = some i ∧ i.zero = some (.bool false) ∧ i.size = 1 ∧ i.bytes = 1 := ⟨Tryd.t4, by kernel_rfl, by kernel_rfl, by kernel_rfl, by kernel_rfl⟩
theorem t57 : ∃ i, Tryd.prog.info? 57 = some i ∧ i.zero = some (.agg #[.slice none 0 0, .bool false]) ∧ i.size = 2 ∧ i.bytes = 32 := ⟨Tryd.t57, by kernel_rfl, by kernel_rfl, by kernel_rfl, by kernel_rfl⟩
theorem t74 : ∃ i, Tryd.prog.info? 74 = some i ∧ i.zero = some (.agg #[.int .i64 0, .slice none 0 0]) ∧ i.size = 2 ∧ i.bytes = 32 := ⟨Tryd.t74, by kernel_rfl, by kernel_rfl, by kernel_rfl, by kernel_rfl⟩

theorem cloneB_spec {w : World} {s : Sl} {xs : List Int} (h : Ints .u8 w s xs) (hx : xs.length ≤ 1000000000) :
    CallsV Tryd.prog n_slices_Clone_byte #[.slice s.a s.len s.cap] w fun v w' => ∃ s' : Sl, v = .slice s'.a s'.len s'.cap ∧ OwnI w.heap.size 5 .u8 w' s' xs ∧ Below w.heap.size w w' := by
  refine slices_Clone_byte.lift ?_
  unfold slices_Clone_byte.main
  refine cond_c (fun hn => ?_) fun hn => ?_
  · have hn' : s.a = none := by simpa using hn
    have : xs = [] := by
      cases xs with
      | nil => rfl
      | cons y r => obtain ⟨p, hp, _⟩ := h.cell 0 y rfl; rw [hn'] at hp; cases hp
    subst this
    exact ⟨⟨none, 0, 0⟩, rfl, OwnI.nil, Below.refl _ _⟩
  · obtain ⟨a, ha⟩ : ∃ a, s.a = some a := by
      cases hs : s.a with
      | none => rw [hs] at hn; cases hn
      | some a => exact ⟨a, rfl⟩
    obtain ⟨i, hi, hz, hsz, hby⟩ := t5
    obtain ⟨s', w', hr, ho, hb⟩ := clone_ints (ty := 30) Tryd.underlying30 hi hz hsz hby h ha (by unfold maxLen; omega) (by omega)
    exact ⟨_, _, _, _, hr, s', rfl, ho, hb⟩

theorem read_spec {B : Nat} {w : World} {d : Addr} {st : DS} {R : List Asn} (h : Sep B w (diskA d st :: R)) (i : Int) :
    CallsV Tryd.prog n_disk_Disk_Read #[.pointer (some d), .int .i64 i] w fun v w' => ∃ s : Sl, v = .tuple #[.slice s.a s.len s.cap, .int .i64 (readD st i).2] ∧ Ints .u8 w' s (readD st i).1 ∧
      Sep B w' (rowA 5 1 s (readD st i).1.length ((readD st i).1.map (Value.int .u8)) :: diskA d st :: R) ∧ Below w.heap.size w w' := by
  obtain ⟨x, ⟨hx, _⟩, hS⟩ := h.unfold
  refine disk_Disk_Read.lift ?_
  unfold disk_Disk_Read.main
  refine (wrong_spec hx hS i).mono ?_
  rintro _ _ ⟨rfl, rfl⟩
  have bad : ∀ e : Int, readD st i = ([], e) → (∃ s : Sl, (Value.tuple #[.slice none 0 0, .int .i64 e]) = .tuple #[.slice s.a s.len s.cap, .int .i64 (readD st i).2] ∧ Ints .u8 w s (readD st i).1 ∧
      Sep B w (rowA 5 1 s (readD st i).1.length ((readD st i).1.map (Value.int .u8)) :: diskA d st :: R) ∧ Below w.heap.size w w) := by
    intro e he
    rw [he]
    exact ⟨⟨none, 0, 0⟩, rfl, Ints.nil, h.rowNil 5 1, Below.refl _ _⟩
  refine ⟨_, rfl, cond_n (fun hne => bad _ (by rw [readD, if_pos hne])) fun h0 => ?_⟩
  have hlN := (hS.rowLen 2 rfl).1
  have hlen := hx.lenN
  have hsl : st.safe.length = x.safe.length := by rw [hx.safe, List.length_map]
  have hin : 0 ≤ i ∧ i < (x.now.length : Int) := by
    unfold wrongD at h0
    split at h0
    · cases h0
    · split at h0
      · cases h0
      · omega
  obtain ⟨y, hy⟩ : ∃ y, x.now[i.toNat]? = some y := ⟨_, List.getElem?_eq_getElem (by omega)⟩
  have hr : readD st i = match y.val with | none => ([], 10) | some b => (b, 0) := by
    rw [readD, if_neg (by simp [h0]), hx.now, List.getElem?_map, hy]; rfl
  obtain ⟨q, hq, hc⟩ := hS.rowGet 2 (by omega) Sc.w rfl hy
  have hN := hS.cell 0 rfl 1 rfl
  refine ⟨d, rfl, _, _, _, hN, hin.1, by omega, q, hq, y.torn, hc 1 _ rfl, cond_c (fun ht => bad _ (by rw [hr, Sc.val, if_pos ht])) fun ht => ?_⟩
  have hc0 := hc 0 _ rfl
  rw [add_zero] at hc0
  refine ⟨d, rfl, _, _, _, hN, hin.1, by omega, q, hq, _, _, _, hc0, ?_⟩
  have hok := hx.inN y (List.mem_of_getElem? hy)
  rcases hok with hok | ⟨_, hok, h64⟩
  · rw [hok] at ht; cases ht
  have hI := hS.intsAt 6 rfl hok
  have hv : readD st i = (y.xs, 0) := by rw [hr, Sc.val, if_neg (by rw [ht]; simp)]
  refine (cloneB_spec hI (by simp only; omega)).mono ?_
  rintro _ w' ⟨s', rfl, ho, hb⟩
  refine ⟨_, _, _, rfl, ?_⟩
  rw [hv]
  exact ⟨s', rfl, ho.ints (by simp only; omega), h.row ho hb, hb⟩

end Go.Proofs.YtledhokhcoeeeaaDoor

/-
  Disk: a crash, and the small operations: contracts.
-/
set_option linter.unusedVariables false
set_option linter.unusedSimpArgs false
namespace Go.Proofs.YtledhokhcoeeeaaDoor
open Go.Lf Go.RowKit

theorem _root_.Go.Lf.Sep.swapIn {B : Nat} {w : World} {l : List Asn} {A : Asn} (k : Nat) (hk : k < l.length) (h : Sep B w (A :: l)) : Sep B w (l.set k A) := by
  have h1 : Sep B w (A :: l[k] :: l.eraseIdx k) := h.perm ((perm_front (List.getElem?_eq_getElem hk)).cons A)
  exact (h1.swap.drop).back k hk
theorem _root_.Go.Lf.Sep.triv {B : Nat} {w : World} {l : List Asn} {A : Asn} (k : Nat) (hk : k < l.length) (h : Sep B w l) (hA : ∀ F, A.on F w) : Sep B w (l.set k A) := by
  refine Sep.swapIn k hk ?_
  exact h.new (F := fun _ => False) (hA _) (fun _ hh => hh.elim) (Below.refl _ _)

structure BoolsR (w : World) (s : Sl) (bs : List Bool) : Prop where
  len : s.len = bs.length
  cell : ∀ (i : Nat) (b : Bool), bs[i]? = some b → ∃ p, s.a = some p ∧ w.cell? (p.add i) = some (.bool b)
theorem BoolsR.get {w : World} {s : Sl} {bs : List Bool} (h : BoolsR w s bs) {i : Nat} (hi : (i : Int) < (s.len : Int)) : ∃ p, s.a = some p ∧ w.cell? (p.add i) = some (.bool (bs[i]?.getD false)) := by
  have hlt : i < bs.length := by have := h.len; omega
  obtain ⟨p, hp, hc⟩ := h.cell i _ (List.getElem?_eq_getElem hlt)
  exact ⟨p, hp, by rw [hc, List.getElem?_eq_getElem hlt]; rfl⟩
theorem BoolsR.nil {w : World} : BoolsR w ⟨none, 0, 0⟩ [] := ⟨rfl, fun i b h => by simp at h⟩

theorem inc {k : Nat} (h : k < 9223372036854775807) : IntKind.i64.wrap ((k : Int) + 1) = ((k + 1 : Nat) : Int) := by rw [w64 (by omega)]; omega

theorem drop_at {α : Type} {l : List α} {k : Nat} {x : α} (h : l[k]? = some x) : l.drop k = x :: l.drop (k + 1) := by
  obtain ⟨hlt, he⟩ := List.getElem?_eq_some_iff.1 h
  rw [List.drop_eq_getElem_cons hlt, he]

theorem cloneS_spec {B : Nat} {w : World} {l : List Asn} (k : Nat) {s : Sl} {xs : List Sc} (hk : l[k]? = some (rowA 57 2 s xs.length (flat Sc.cells xs))) (h : Sep B w l) (hp : xs ≠ []) (hx : xs.length ≤ 1000000) :
    CallsV Tryd.prog n_slices_Clone_sector #[.slice s.a s.len s.cap] w fun v w' => ∃ s' : Sl, v = .slice s'.a s'.len s'.cap ∧ Sep B w' (rowA 57 2 s' xs.length (flat Sc.cells xs) :: l) ∧ Below w.heap.size w w' := by
  refine slices_Clone_sector.lift ?_
  unfold slices_Clone_sector.main
  have hl := flat_length Sc.w xs
  have hpos : 0 < xs.length := by cases xs with
    | nil => exact absurd rfl hp
    | cons y r => simp
  obtain ⟨q, hq, hc⟩ := h.rowCell k hk (j := 0) (by omega)
  refine cond_f' (by rw [hq]; rfl) ?_
  obtain ⟨i, hi, hz, hsz, hby⟩ := t57
  have hlen := (h.rowLen k hk).1
  obtain ⟨s', w', hr, _, ho, hb⟩ := clone_go (ty := 51) (c := s.cap) Tryd.underlying51 hi hz hsz hby rfl (by omega) hl hc (by
    intro u hu
    simp only [flat, List.mem_flatMap, Sc.cells, List.mem_cons, List.not_mem_nil, or_false] at hu
    obtain ⟨y, _, rfl | rfl⟩ := hu <;> rfl) (by unfold maxLen; omega) (by omega)
  rw [hq, hlen]
  exact ⟨_, _, _, _, hr, s', rfl, h.row ho hb, hb⟩

theorem crash_core {B : Nat} {w : World} {d : Addr} {x : DC} {st : DS} {R : List Asn} (hx : DOk x st) (h : Sep B w (dl d x st.off st.trip ++ R)) {keep : Sl} {kl : List Bool} (torn : Int) (hpl : st.pend.length ≤ 1000000000) (hrng : st.off = true → Rng st)
    (hk : ∀ w' sf, Below B w w' → Sep B w' (dl d { x with safe := sf } st.off st.trip ++ R) → BoolsR w' keep kl) :
    CallsV Tryd.prog n_disk_Disk_Crash #[.pointer (some d), .slice keep.a keep.len keep.cap, .int .i64 torn] w fun v w' => v = .tuple #[] ∧ Sep B w' (diskA d (crashD st kl torn) :: R) ∧ Below B w w' := by
  refine disk_Disk_Crash.lift ?_
  unfold disk_Disk_Crash.main
  have hlP := (h.rowLen 3 rfl).1
  have hpl' : x.pend.length ≤ 1000000000 := by rw [hx.pend, List.length_map] at hpl; exact hpl
  refine ⟨d, rfl, st.off, h.cell 0 rfl 3 rfl, cond_c (fun ho => ⟨rfl, ?_, Below.refl _ _⟩) fun ho => ?_⟩
  · rw [crashD, if_pos ho]
    exact Sep.fold x ⟨hx, hrng ho⟩ h
  refine ⟨d, rfl, _, _, _, h.cell 0 rfl 2 rfl, ?_⟩
  unfold disk_Disk_Crash.l2
  refine ⟨fun t w' => ∃ k : Nat, t = k ∧ k ≤ x.pend.length ∧ ∃ cur : List Sc, cur.length = x.safe.length ∧ (∀ y ∈ cur, ScOk x.L y) ∧ crashSafe kl torn 0 st.pend st.safe = crashSafe kl torn k (st.pend.drop k) (cur.map Sc.val) ∧
    Sep B w' (dl d { x with safe := cur } st.off st.trip ++ R) ∧ Below B w w', fun t _ => x.pend.length - t.toNat, ⟨0, rfl, Nat.zero_le _, x.safe, rfl, hx.inS, by rw [hx.safe]; rfl, h, Below.refl _ _⟩, ?_⟩
  rintro _ w1 ⟨k, rfl, hkl, cur, hcl, hcok, hcs, hS, hb⟩
  unfold disk_Disk_Crash.b2
  refine cond_d (fun hlt => ?_) fun hge => ?_
  · have hkP : k < x.pend.length := by omega
    obtain ⟨y, hy⟩ : ∃ y, x.pend[k]? = some y := ⟨_, List.getElem?_eq_getElem hkP⟩
    obtain ⟨hyL, hy64, hyi⟩ := hx.inP y (List.mem_of_getElem? hy)
    have hyP : st.pend[k]? = some y.val := by rw [hx.pend, List.getElem?_map, hy]; rfl
    obtain ⟨q, hq, hc⟩ := hS.rowGet 3 (by omega) Wt.w rfl hy
    have hc0 := hc 0 _ rfl
    rw [add_zero] at hc0
    have hlS := (hS.rowLen 1 rfl).1
    have hlS' : x.sS.len = x.safe.length := by rw [← hcl]; exact hlS
    refine ⟨by omega, hlt, q, hq, _, by rw [Int.toNat_natCast]; exact hc0, _, _, _, by rw [Int.toNat_natCast]; exact hc 1 _ rfl, ?_⟩
    refine ⟨fun j hj => wr_new _ _ _ (by simpa using hj), ?_⟩
    intro w8
    have e8 : w8 = w1.alloc (.cells #[.int .i64 (y.i : Int), .slice y.s.a y.s.len y.s.cap] 74) := box_set2
    clear_value w8
    have hb8 : Below w1.heap.size w1 w8 := by rw [e8]; exact below_alloc _ _
    have hS8 := hS.keep hb8
    have hB8 : Below B w w8 := hb.next hb8 (by have := h.le; exact this)
    have n0 : w8.cell? (newA w1) = some (.int .i64 (y.i : Int)) := by rw [e8]; exact cell_new0 _ _ _
    have n1 : w8.cell? ((newA w1).add 1) = some (.slice y.s.a y.s.len y.s.cap) := by rw [e8]; exact cell_new _ _ _ 1
    have hyc : y.i < cur.length := by omega
    -- a sector is written, and on
    have step : ∀ (z : Sc) (v0 v1 : Value), z.cells = [v0, v1] → ScOk x.L z →
        (if (k : Int) = torn then (cur.map Sc.val).set y.i none else if kl[k]?.getD false = true then (cur.map Sc.val).set y.i (some y.xs) else cur.map Sc.val) = (cur.map Sc.val).set y.i z.val → ∀ qS : Addr, x.sS.a = some qS →
        (fun d0' keep1' torn2' t15' t16' t17' w' => (d0' = some d ∧ keep1' = keep ∧ torn2' = torn ∧ t15' = (⟨x.sP.a, x.sP.len, x.sP.cap⟩ : Sl) ∧ t16' = ((x.sP.len : Nat) : Int) ∧ ∃ k : Nat, t17' = (k : Int) ∧ k ≤ x.pend.length ∧ ∃ cur : List Sc, cur.length = x.safe.length ∧ (∀ y ∈ cur, ScOk x.L y) ∧ crashSafe kl torn 0 st.pend st.safe = crashSafe kl torn k (st.pend.drop k) (cur.map Sc.val) ∧
          Sep B w' (dl d { x with safe := cur } st.off st.trip ++ R) ∧ Below B w w') ∧ x.pend.length - t17'.toNat < x.pend.length - (k : Int).toNat) (some d) keep torn ⟨x.sP.a, x.sP.len, x.sP.cap⟩ ((x.sP.len : Nat) : Int) (IntKind.i64.wrap ((k : Int) + 1)) (setCells (qS.add (y.i * 2)) [v0, v1] 0 w8.drew) := by
      intro z v0 v1 hz hzok hst qS hqS
      rw [inc (by omega)]
      obtain ⟨_, hSn, hbn⟩ := hS8.drew.rowEl 1 Sc.w (xs := cur) rfl hqS hyc z
      rw [hz] at hSn hbn
      refine ⟨⟨rfl, rfl, rfl, rfl, rfl, k + 1, rfl, hkP, cur.set y.i z, by rw [List.length_set, hcl], ?_, ?_, ?_, ?_⟩, by (try dsimp only); omega⟩
      · intro u hu
        rcases List.mem_or_eq_of_mem_set hu with hu | rfl
        · exact hcok u hu
        · exact hzok
      · rw [hcs, drop_at hyP]
        show crashSafe kl torn (k + 1) _ _ = _
        rw [List.map_set]
        exact congrArg (crashSafe kl torn (k + 1) (st.pend.drop (k + 1))) hst
      · unfold dl at hSn ⊢
        simp only [List.cons_append, List.set_cons_succ, List.set_cons_zero, List.length_set] at hSn ⊢
        exact hSn
      · exact (hB8.trans ((Same.drew w8).below B)).trans hbn
    have idle : (¬ (k : Int) = torn) → kl[k]?.getD false = false →
        (fun d0' keep1' torn2' t15' t16' t17' w' => (d0' = some d ∧ keep1' = keep ∧ torn2' = torn ∧ t15' = (⟨x.sP.a, x.sP.len, x.sP.cap⟩ : Sl) ∧ t16' = ((x.sP.len : Nat) : Int) ∧ ∃ k : Nat, t17' = (k : Int) ∧ k ≤ x.pend.length ∧ ∃ cur : List Sc, cur.length = x.safe.length ∧ (∀ y ∈ cur, ScOk x.L y) ∧ crashSafe kl torn 0 st.pend st.safe = crashSafe kl torn k (st.pend.drop k) (cur.map Sc.val) ∧
          Sep B w' (dl d { x with safe := cur } st.off st.trip ++ R) ∧ Below B w w') ∧ x.pend.length - t17'.toNat < x.pend.length - (k : Int).toNat) (some d) keep torn ⟨x.sP.a, x.sP.len, x.sP.cap⟩ ((x.sP.len : Nat) : Int) (IntKind.i64.wrap ((k : Int) + 1)) w8 := by
      intro h1 h2
      rw [inc (by omega)]
      refine ⟨⟨rfl, rfl, rfl, rfl, rfl, k + 1, rfl, hkP, cur, hcl, hcok, ?_, hS8, hB8⟩, by (try dsimp only); omega⟩
      rw [hcs, drop_at hyP]
      show crashSafe kl torn (k + 1) _ (if (k : Int) = torn then _ else if kl[k]?.getD false = true then _ else _) = _
      rw [if_neg h1, if_neg (by rw [h2]; simp)]
    obtain ⟨qS, hqS, _⟩ := hS.rowCell 1 rfl (j := 0) (by rw [flat_length Sc.w]; have := hx.pos; show 0 < cur.length * 2; omega)
    have hqS' : x.sS.a = some qS := hqS
    have hd8 := hS8.cell0 0 rfl rfl
    refine cond_e (fun htorn => ?_) fun hntorn => ?_
    · refine ⟨fun u => u.cell? d = some (.slice x.sS.a x.sS.len x.sS.cap) ∧ u.cell? (newA w1) = some (.int .i64 (y.i : Int)), ⟨hd8, n0⟩, d, rfl, _, _, _, fun u hu => hu.1, _, fun u hu => hu.2, by omega, by omega, qS, hqS', ?_, ?_⟩
      · rw [Int.toNat_natCast]
        exact (hS8.drew.rowEl 1 Sc.w (xs := cur) rfl hqS' hyc ⟨⟨none, 0, 0⟩, [], true⟩).1
      · rw [Int.toNat_natCast]
        exact step ⟨⟨none, 0, 0⟩, [], true⟩ _ _ rfl (.inl rfl) (by rw [if_pos htorn]; rfl) qS hqS'
    · have hBk := hk w8 cur hB8 hS8
      refine cond_d (fun hkk => ?_) fun hkk => idle hntorn ?_
      · obtain ⟨p, hp, hcp⟩ := hBk.get hkk
        refine ⟨by omega, hkk, p, hp, _, by rw [Int.toNat_natCast]; exact hcp, cond_c (fun hb => ?_) fun hb => idle hntorn hb⟩
        unfold disk_Disk_Crash.c3
        refine ⟨fun u => u.cell? d = some (.slice x.sS.a x.sS.len x.sS.cap) ∧ u.cell? (newA w1) = some (.int .i64 (y.i : Int)) ∧ u.cell? ((newA w1).add 1) = some (.slice y.s.a y.s.len y.s.cap), ⟨hd8, n0, n1⟩, d, rfl, _, _, _, fun u hu => hu.1, _, fun u hu => hu.2.1, _, _, _, fun u hu => hu.2.2, by omega, by omega, qS, hqS', ?_, ?_⟩
        · rw [Int.toNat_natCast]
          exact (hS8.drew.rowEl 1 Sc.w (xs := cur) rfl hqS' hyc ⟨⟨none, 0, 0⟩, [], true⟩).1
        · rw [Int.toNat_natCast]
          exact step ⟨y.s, y.xs, false⟩ _ _ rfl (.inr ⟨rfl, hyL, hy64⟩) (by rw [if_neg hntorn, if_pos hb]; rfl) qS hqS'
      · have := hBk.len
        rw [List.getElem?_eq_none (by omega)]; rfl
  · have hke : k = x.pend.length := by omega
    have hcs' : crashSafe kl torn 0 st.pend st.safe = cur.map Sc.val := by
      rw [hcs, List.drop_eq_nil_of_le (by rw [hx.pend, List.length_map]; omega)]; rfl
    unfold disk_Disk_Crash.c1
    refine ⟨d, rfl, _, _, _, hS.cell0 0 rfl rfl, ?_⟩
    have hpos := hx.pos
    have hfew := hx.few
    refine (cloneS_spec 1 (xs := cur) rfl hS (fun hn => by rw [hn] at hcl; simp at hcl; omega) (by omega)).mono ?_
    rintro _ w2 ⟨s', rfl, hS2, hb2⟩
    refine ⟨_, _, _, rfl, d, rfl, ?_⟩
    have hS3 := Sep.swapIn (l := dl d { x with safe := cur } st.off st.trip ++ R) 2 (by simp [dl]) hS2
    have hB2 := hb.next hb2 h.le
    refine ⟨hS3.wr 0 rfl (j := 1) (by simp), ?_⟩
    obtain ⟨hS4, hb4⟩ := hS3.set 0 rfl (j := 1) (by simp) (.slice s'.a s'.len s'.cap)
    refine ⟨d, rfl, hS4.wr 0 rfl (j := 2) (by simp), ?_⟩
    obtain ⟨hS5, hb5⟩ := hS4.set 0 rfl (j := 2) (by simp) (.slice none 0 0)
    refine ⟨d, rfl, hS5.wr 0 rfl (j := 4) (by simp), ?_⟩
    obtain ⟨hS6, hb6⟩ := hS5.set 0 rfl (j := 4) (by simp) (.pointer none)
    refine ⟨d, rfl, hS6.wr 0 rfl (j := 3) (by simp), ?_⟩
    obtain ⟨hS7, hb7⟩ := hS6.set 0 rfl (j := 3) (by simp) (.bool true)
    refine ⟨rfl, ?_, (((hB2.trans hb4).trans hb5).trans hb6).trans hb7⟩
    rw [crashD, if_neg (by rw [ho]; simp)]
    refine Sep.fold ⟨x.sS, s', ⟨none, 0, 0⟩, cur, cur, [], none, ⟨none, 0, 0⟩, x.L⟩ ⟨⟨hcs', rfl, hcs', by simp only; omega, by simp only; omega, hcok, hcok, (fun y hy => by cases hy), (fun _ => rfl), (fun t ht => by cases ht)⟩, fun t ht => by cases ht⟩ ?_
    have hS8 := ((hS7.triv (A := rowA 74 2 ⟨none, 0, 0⟩ 0 []) 3 (by simp [dl]) fun F => ⟨World.ownsRow_nil _ _ _ _, fun q hq => by cases hq⟩).triv (A := noneA) 4 (by simp [dl]) fun F => trivial).triv (A := rowA 4 1 ⟨none, 0, 0⟩ 0 []) 5 (by simp [dl]) fun F => ⟨World.ownsRow_nil _ _ _ _, fun q hq => by cases hq⟩
    exact hS8

end Go.Proofs.YtledhokhcoeeeaaDoor

/-
  Disk: writes, syncs, and what is armed: contracts.
-/
set_option linter.unusedVariables false
set_option linter.unusedSimpArgs false
namespace Go.Proofs.YtledhokhcoeeeaaDoor
open Go.Lf Go.RowKit

theorem crash_spec {B : Nat} {w : World} {d : Addr} {st : DS} {R : List Asn} (h : Sep B w (diskA d st :: R)) {keep : Sl} {kl : List Bool} (torn : Int) (hpl : st.pend.length ≤ 1000000000)
    (hk : ∀ w', Below B w w' → Sep B w' R → BoolsR w' keep kl) :
    CallsV Tryd.prog n_disk_Disk_Crash #[.pointer (some d), .slice keep.a keep.len keep.cap, .int .i64 torn] w fun v w' => v = .tuple #[] ∧ Sep B w' (diskA d (crashD st kl torn) :: R) ∧ Below B w w' := by
  obtain ⟨x, ⟨hx, hr⟩, hS⟩ := h.unfold
  exact crash_core hx hS torn hpl (fun _ => hr) fun w' sf hb hS' => hk w' hb (Sep.dropL hS')

theorem off_spec {B : Nat} {w : World} {d : Addr} {st : DS} {R : List Asn} (h : Sep B w (diskA d st :: R)) : CallsV Tryd.prog n_disk_Disk_Off #[.pointer (some d)] w fun v w' => v = .bool st.off ∧ w = w' := by
  obtain ⟨x, _, hS⟩ := h.unfold
  refine disk_Disk_Off.lift ?_
  unfold disk_Disk_Off.main
  exact ⟨d, rfl, _, hS.cell 0 rfl 3 rfl, rfl, rfl⟩

theorem sectors_spec {B : Nat} {w : World} {d : Addr} {st : DS} {R : List Asn} (h : Sep B w (diskA d st :: R)) : CallsV Tryd.prog n_disk_Disk_Sectors #[.pointer (some d)] w fun v w' => v = .int .i64 (st.safe.length : Nat) ∧ w = w' := by
  obtain ⟨x, ⟨hx, _⟩, hS⟩ := h.unfold
  refine disk_Disk_Sectors.lift ?_
  unfold disk_Disk_Sectors.main
  refine ⟨d, rfl, _, _, _, hS.cell0 0 rfl rfl, ?_, rfl⟩
  have hl := (hS.rowLen 1 rfl).1
  rw [hx.safe, List.length_map, hl]

theorem start_spec {B : Nat} {w : World} {d : Addr} {st : DS} {R : List Asn} (h : Sep B w (diskA d st :: R)) : CallsV Tryd.prog n_disk_Disk_Start #[.pointer (some d)] w fun v w' => v = .tuple #[] ∧ Sep B w' (diskA d (startD st) :: R) ∧ Below B w w' := by
  obtain ⟨x, ⟨hx, hr⟩, hS⟩ := h.unfold
  refine disk_Disk_Start.lift ?_
  unfold disk_Disk_Start.main
  obtain ⟨h2, hb⟩ := hS.set 0 rfl (j := 3) (by simp) (.bool false)
  exact ⟨d, rfl, hS.wr 0 rfl (j := 3) (by simp), rfl, Sep.fold x ⟨⟨hx.safe, hx.pend, hx.now, hx.pos, hx.few, hx.inS, hx.inN, hx.inP, hx.tp0, hx.tp1⟩, hr⟩ h2, hb⟩

theorem cloneBool_spec {w : World} {s : Sl} {bs : List Bool} (h : BoolsR w s bs) (hx : bs.length ≤ 1000000000) :
    CallsV Tryd.prog n_slices_Clone_bool #[.slice s.a s.len s.cap] w fun v w' => ∃ s' : Sl, v = .slice s'.a s'.len s'.cap ∧ w'.ownsRow w.heap.size 4 1 (.slice s'.a s'.len s'.cap) bs.length (bs.map Value.bool) ∧ Below w.heap.size w w' := by
  refine slices_Clone_bool.lift ?_
  unfold slices_Clone_bool.main
  refine cond_c (fun hn => ?_) fun hn => ?_
  · have hn' : s.a = none := by simpa using hn
    have : bs = [] := by
      cases bs with
      | nil => rfl
      | cons y r => obtain ⟨p, hp, _⟩ := h.cell 0 y rfl; rw [hn'] at hp; cases hp
    subst this
    exact ⟨⟨none, 0, 0⟩, rfl, World.ownsRow_nil _ _ _ _, Below.refl _ _⟩
  · obtain ⟨a, ha⟩ : ∃ a, s.a = some a := by
      cases hs : s.a with
      | none => rw [hs] at hn; cases hn
      | some a => exact ⟨a, rfl⟩
    obtain ⟨i, hi, hz, hsz, hby⟩ := t4
    obtain ⟨s', w', hr, _, ho, hb⟩ := clone_go (ty := 44) (c := s.cap) Tryd.underlying44 hi hz hsz hby rfl (by omega) (w := w) (a := a) (m := bs.length) (news := bs.map Value.bool) (by simp) (fun j u hu => by
      rw [List.getElem?_map, Option.map_eq_some_iff] at hu
      obtain ⟨b, hb, rfl⟩ := hu
      obtain ⟨p, hp, hc⟩ := h.cell j b hb
      rw [ha] at hp
      obtain rfl := Option.some.inj hp
      exact hc) (by intro u hu; simp at hu; rcases hu with ⟨_, rfl⟩ | ⟨_, rfl⟩ <;> rfl) (by unfold maxLen; omega) (by omega)
    rw [ha, h.len]
    exact ⟨_, _, _, _, hr, s', rfl, ho, hb⟩

theorem trip_spec {B : Nat} {w : World} {d : Addr} {st : DS} {R : List Asn} (h : Sep B w (diskA d st :: R)) {keep : Sl} {kl : List Bool} (n torn : Int) (hn : n ≤ 9223372036854775807) (hkl : kl.length ≤ 1000000000)
    (hk : ∀ w', Below B w w' → Sep B w' R → BoolsR w' keep kl) :
    CallsV Tryd.prog n_disk_Disk_Trip #[.pointer (some d), .int .i64 n, .slice keep.a keep.len keep.cap, .int .i64 torn] w fun v w' => v = .tuple #[] ∧ Sep B w' (diskA d (tripD st n kl torn) :: R) ∧ Below B w w' := by
  obtain ⟨x, ⟨hx, hr⟩, hS⟩ := h.unfold
  refine disk_Disk_Trip.lift ?_
  unfold disk_Disk_Trip.main
  obtain ⟨h2, hb⟩ := hS.set 0 rfl (j := 4) (by simp) (.pointer none)
  have h3 := ((h2.triv (A := noneA) 4 (by simp [dl]) fun F => trivial).triv (A := rowA 4 1 ⟨none, 0, 0⟩ 0 []) 5 (by simp [dl]) fun F => ⟨World.ownsRow_nil _ _ _ _, fun q hq => by cases hq⟩)
  refine ⟨d, rfl, hS.wr 0 rfl (j := 4) (by simp), cond_d (fun h1 => ?_) fun h1 => ⟨rfl, ?_, hb⟩⟩
  · have hR : Sep B (w.setCell (d.add 4) (.pointer none)) R := h2.drop.drop.drop.drop.drop.drop.drop
    refine (cloneBool_spec (hk _ hb hR) hkl).mono ?_
    rintro _ w2 ⟨ks, rfl, ho, hb2⟩
    refine ⟨_, _, _, rfl, ?_⟩
    intro w3
    have h4 := Sep.swapIn (l := (dl d { x with tp := none, ks := ⟨none, 0, 0⟩ } st.off none ++ R)) 5 (by simp [dl]) (Sep.row h3 ho hb2)
    have h5 := Sep.box h4 [.int .i64 n, .slice ks.a ks.len ks.cap, .int .i64 torn] 77
    have h6 := Sep.swapIn (l := (dl d { x with tp := none, ks := ⟨none, 0, 0⟩ } st.off none ++ R).set 5 _) 4 (by simp [dl]) h5.1
    obtain ⟨h7, hb7⟩ := h6.set 0 rfl (j := 4) (by simp) (.pointer (some (newA w2)))
    refine ⟨d, rfl, h6.wr 0 rfl (j := 4) (by simp), rfl, ?_, ((hb.next hb2 (by have := hS.le; simpa [World.setCell] using this)).trans h5.2).trans hb7⟩
    have e : tripD st n kl torn = { st with trip := some (n, kl, torn) } := by rw [tripD, if_pos h1]
    rw [e]
    exact Sep.fold { x with tp := some (newA w2), ks := ks } ⟨⟨hx.safe, hx.pend, hx.now, hx.pos, hx.few, hx.inS, hx.inN, hx.inP, (fun hh => by cases hh), fun t ht => ⟨_, rfl⟩⟩, fun t ht => by obtain rfl := Option.some.inj ht; exact ⟨h1, hn⟩⟩ h7
  · have e : tripD st n kl torn = { st with trip := none } := by rw [tripD, if_neg h1]
    rw [e]
    exact Sep.fold { x with tp := none, ks := ⟨none, 0, 0⟩ } ⟨⟨hx.safe, hx.pend, hx.now, hx.pos, hx.few, hx.inS, hx.inN, hx.inP, fun _ => rfl, fun t ht => by cases ht⟩, fun t ht => by cases ht⟩ h3

/-! does the power go with this call -/

theorem trips_core {B : Nat} {w : World} {d : Addr} {x : DC} {st : DS} {R : List Asn} (hx : DOk x st) (hr : Rng st) (hoff : st.off = false) (hS : Sep B w (dl d x st.off st.trip ++ R)) (hpl : st.pend.length ≤ 1000000000) (hkl : ∀ t, st.trip = some t → t.2.1.length ≤ 1000000000) :
    CallsV Tryd.prog n_disk_Disk_trips #[.pointer (some d)] w fun v w' => v = .bool (tripsD st).1 ∧ Sep B w' (diskA d (tripsD st).2 :: R) ∧ Below B w w' := by
  refine disk_Disk_trips.lift ?_
  unfold disk_Disk_trips.main
  refine ⟨d, rfl, x.tp, hS.cell 0 rfl 4 rfl, cond_c (fun hn => ?_) fun hn => ?_⟩
  · cases ht : st.trip with
    | none => rw [show tripsD st = (false, st) by rw [tripsD, ht]]; exact ⟨rfl, Sep.fold x ⟨hx, hr⟩ hS, Below.refl _ _⟩
    | some t => obtain ⟨q, hq⟩ := hx.tp1 t ht; rw [hq] at hn; cases hn
  · cases ht : st.trip with
    | none => rw [hx.tp0 ht] at hn; cases hn
    | some t =>
      obtain ⟨n, keep, torn⟩ := t
      obtain ⟨q, hq⟩ := hx.tp1 _ ht
      obtain ⟨hn1, hn2⟩ := hr _ ht
      dsimp only at hn1 hn2
      have hk := hkl _ ht
      dsimp only at hk
      obtain ⟨sS, sN, sP, sf, nw, pd, tp, ks, L⟩ := x
      dsimp only at hq
      subst hq
      obtain ⟨safe, pend, off, trip⟩ := st
      dsimp only at ht hoff hpl
      subst ht hoff
      have hq4 := hS.cell0 4 rfl rfl
      obtain ⟨h2, hb⟩ := hS.set0 4 rfl (by simp [tripC]) (.int .i64 (IntKind.i64.wrap (n - 1)))
      rw [w64 (n := n - 1) (by omega)] at h2 hb
      refine ⟨d, rfl, _, hS.cell 0 rfl 4 rfl, q, rfl, _, hq4, q, rfl, hS.wr0 4 rfl (by simp [tripC]), ?_⟩
      rw [w64 (n := n - 1) (by omega)]
      refine ⟨d, rfl, _, h2.cell 0 rfl 4 rfl, q, rfl, _, h2.cell0 4 rfl rfl, ?_⟩
      have e : tripsD ⟨safe, pend, false, some (n, keep, torn)⟩ = if n - 1 > 0 then (false, ⟨safe, pend, false, some (n - 1, keep, torn)⟩) else (true, crashD ⟨safe, pend, false, some (n - 1, keep, torn)⟩ keep torn) := rfl
      rw [e]
      have hx' : DOk ⟨sS, sN, sP, sf, nw, pd, some q, ks, L⟩ ⟨safe, pend, false, some (n - 1, keep, torn)⟩ := ⟨hx.safe, hx.pend, hx.now, hx.pos, hx.few, hx.inS, hx.inN, hx.inP, fun h => (by cases h), fun t _ => ⟨q, rfl⟩⟩
      have h3 : Sep B (w.setCell q (.int .i64 (n - 1))) (dl d ⟨sS, sN, sP, sf, nw, pd, some q, ks, L⟩ false (some (n - 1, keep, torn)) ++ R) := h2
      refine cond_d (fun h1 => ?_) fun h1 => ?_
      · rw [if_pos h1]
        exact ⟨rfl, Sep.fold _ ⟨hx', fun t ht => by obtain rfl := Option.some.inj ht; exact ⟨by simp only; omega, by simp only; omega⟩⟩ h3, hb⟩
      · rw [if_neg h1]
        refine ⟨fun u => u.cell? (d.add 4) = some (.pointer (some q)) ∧ u.cell? (q.add 1) = some (.slice ks.a ks.len ks.cap) ∧ u.cell? (q.add 2) = some (.int .i64 torn), ⟨h2.cell 0 rfl 4 rfl, h2.cell 4 rfl 1 rfl, h2.cell 4 rfl 2 rfl⟩,
          d, rfl, _, fun u hu => hu.1, q, rfl, _, _, _, fun u hu => hu.2.1, d, rfl, _, fun u hu => hu.1, q, rfl, _, fun u hu => hu.2.2, ?_⟩
        refine (crash_core (kl := keep) hx' h3.drew torn hpl (fun h => by cases h) fun w' sf' _ hS' => ?_).mono ?_
        · have hl := (hS'.rowLen 5 rfl).1
          refine ⟨by simpa [keepOf] using hl, fun i b hib => ?_⟩
          have hlt := (List.getElem?_eq_some_iff.1 hib).1
          obtain ⟨p, hp, hc⟩ := hS'.rowCell 5 rfl (j := i) (by simpa [keepOf] using hlt)
          exact ⟨p, hp, hc i _ (by simp [keepOf, hib])⟩
        · rintro _ w' ⟨rfl, hS', hb'⟩
          exact ⟨rfl, rfl, hS', (hb.trans ((Same.drew _).below B)).trans hb'⟩

/-! a write -/

theorem nowOf_app (s : List (Option (List Int))) (p : List (Nat × List Int)) (i : Nat) (b : List Int) : nowOf s (p ++ [(i, b)]) = (nowOf s p).set i (some b) := by
  simp [nowOf, List.foldl_append]

structure WfD (st : DS) : Prop where
  pend : st.pend.length ≤ 1000000
  keep : ∀ t, st.trip = some t → t.2.1.length ≤ 1000000000

theorem write_spec {B : Nat} {w : World} {d : Addr} {st : DS} {R : List Asn} (h : Sep B w (diskA d st :: R)) (wf : WfD st) {s : Sl} {bs : List Int} (i : Int) (hbs : bs.length ≤ 1000000000)
    (hs : ∀ w', Below B w w' → Sep B w' R → Ints .u8 w' s bs) :
    CallsV Tryd.prog n_disk_Disk_Write #[.pointer (some d), .int .i64 i, .slice s.a s.len s.cap] w fun v w' => v = .int .i64 (writeD st i bs).1 ∧ Sep B w' (diskA d (writeD st i bs).2 :: R) ∧ Below B w w' := by
  obtain ⟨x, ⟨hx, hr⟩, hS⟩ := h.unfold
  refine disk_Disk_Write.lift ?_
  unfold disk_Disk_Write.main
  refine (wrong_spec hx hS i).mono ?_
  rintro _ _ ⟨rfl, rfl⟩
  have hI := hs w (Below.refl _ _) h.drop
  have hlen := hI.len
  refine ⟨_, rfl, cond_n (fun hne => ⟨by rw [writeD, if_pos hne], by rw [writeD, if_pos hne]; exact h, Below.refl _ _⟩) fun h0 => ?_⟩
  intro t15
  have ht : t15 = (((s.len : Nat) : Int) != 64) := rfl
  clear_value t15; subst ht
  refine cond_n (fun hne => ?_) fun h64 => ?_
  · have : bs.length ≠ 64 := by omega
    rw [writeD, if_neg (by simp [h0]), if_pos this]
    exact ⟨rfl, h, Below.refl _ _⟩
  have h64 : bs.length = 64 := by omega
  have hoff : st.off = false := by
    unfold wrongD at h0
    cases ho : st.off with
    | false => rfl
    | true => rw [ho] at h0; simp at h0
  have hin : 0 ≤ i ∧ i < (st.safe.length : Int) := by
    unfold wrongD at h0
    rw [hoff] at h0
    simp only [Bool.false_eq_true, if_false] at h0
    split at h0
    · cases h0
    · omega
  obtain ⟨j, rfl⟩ : ∃ j : Nat, i = j := ⟨i.toNat, by omega⟩
  have hsl : st.safe.length = x.safe.length := by rw [hx.safe, List.length_map]
  have hlN := hx.lenN
  have hpd : x.pend.length ≤ 1000000 := by have := wf.pend; rw [hx.pend, List.length_map] at this; exact this
  refine ⟨fun u => u.cell? (d.add 2) = some (.slice x.sP.a x.sP.len x.sP.cap), hS.cell 0 rfl 2 rfl, d, rfl, _, _, _, fun u hu => hu, ?_⟩
  refine (cloneB_spec (hs _ ((Same.drew w).below B) h.drop.drew) hbs).mono ?_
  rintro _ w2 ⟨s1, rfl, ho1, hb1⟩
  have hS2 := Sep.intsMore (l := dl d x st.off st.trip ++ R) 6 rfl hS.drew ho1 (by omega) hb1
  have hB2 : Below B w w2 := ((Same.drew w).below B).next hb1 h.le
  refine ⟨_, _, _, rfl, hS2.cell 0 rfl 2 rfl, ?_⟩
  intro w3
  obtain ⟨hS3, hb3⟩ := Sep.box hS2 [.int .i64 (j : Int), .slice s1.a s1.len s1.cap] 74
  have hS3' := hS3.drop
  have hnew : ∀ (m : Nat) u, ([.int .i64 (j : Int), .slice s1.a s1.len s1.cap] : List Value)[m]? = some u → (w2.alloc (.cells #[.int .i64 (j : Int), .slice s1.a s1.len s1.cap] 74)).cell? ((newA w2).add m) = some u := fun m u hu => hS3.cell 0 rfl m hu
  obtain ⟨ii, hi, hz, hsz, hby⟩ := t74
  have hlP := (hS.rowLen 3 rfl).1
  obtain ⟨sP', w4, hrun, hlP', hS4, hb4⟩ := Sep.append (ty := 52) (c := 1) Tryd.underlying52 hi hz hsz hby rfl (by omega) 3 rfl hS3' (m := 1) (news := [.int .i64 (j : Int), .slice s1.a s1.len s1.cap]) rfl hnew (by intro u hu; simp at hu; rcases hu with rfl | rfl <;> rfl) (by unfold maxLen; omega) (by omega) (by omega)
  refine ⟨hS3'.cell 0 rfl 2 rfl, _, _, _, _, hrun, d, rfl, hS4.wr 0 rfl (j := 2) (by simp), ?_⟩
  intro w5
  obtain ⟨hS5, hb5⟩ := hS4.set 0 rfl (j := 2) (by simp) (.slice sP'.a sP'.len sP'.cap)
  have hB5 : Below B w w5 := ((hB2.trans hb3).trans hb4).trans hb5
  have hR5 : Sep B w5 R := hS5.drop.drop.drop.drop.drop.drop.drop
  refine ⟨fun u => u.cell? (d.add 1) = some (.slice x.sN.a x.sN.len x.sN.cap), hS5.cell 0 rfl 1 rfl, d, rfl, _, _, _, fun u hu => hu, ?_⟩
  refine (cloneB_spec (hs _ (hB5.trans ((Same.drew _).below B)) hR5.drew) hbs).mono ?_
  rintro _ w6 ⟨s2, rfl, ho2, hb6⟩
  have hS6 := Sep.intsMore 6 rfl hS5.drew ho2 (by omega) hb6
  have hlN' := (hS6.rowLen 2 rfl).1
  have hjN : j < x.now.length := by omega
  obtain ⟨qN, hqN, _⟩ := hS6.rowCell 2 rfl (j := 0) (by rw [flat_length Sc.w]; omega)
  have hqN' : x.sN.a = some qN := hqN
  obtain ⟨hw7, hS7, hb7⟩ := hS6.rowEl 2 Sc.w (xs := x.now) rfl hqN' hjN ⟨s2, bs, false⟩
  refine ⟨_, _, _, rfl, hS6.cell 0 rfl 1 rfl, by omega, by omega, qN, hqN', by rw [Int.toNat_natCast]; exact hw7, ?_⟩
  rw [Int.toNat_natCast]
  intro w7
  have hB7 : Below B w w7 := ((hB5.trans ((Same.drew _).below B)).next hb6 h.le).trans hb7
  have hx7 : DOk ⟨x.sS, x.sN, sP', x.safe, x.now.set j ⟨s2, bs, false⟩, x.pend ++ [⟨j, s1, bs⟩], x.tp, x.ks, (s2, bs) :: (s1, bs) :: x.L⟩ (addD st (j : Int).toNat bs) := by
    have up : ∀ y, ScOk x.L y → ScOk ((s2, bs) :: (s1, bs) :: x.L) y := fun y hy => hy.imp id fun ⟨a, b, c⟩ => ⟨a, List.mem_cons_of_mem _ (List.mem_cons_of_mem _ b), c⟩
    refine ⟨hx.safe, ?_, ?_, hx.pos, hx.few, fun y hy => up y (hx.inS y hy), fun y hy => ?_, fun y hy => ?_, hx.tp0, hx.tp1⟩
    · show st.pend ++ [_] = _
      rw [hx.pend, List.map_append]; simp [Wt.val]
    · show nowOf st.safe (st.pend ++ [_]) = _
      rw [nowOf_app, hx.now, List.map_set]; simp [Sc.val]
    · rcases List.mem_or_eq_of_mem_set hy with hy | rfl
      · exact up y (hx.inN y hy)
      · exact .inr ⟨rfl, List.mem_cons_self, h64⟩
    · rcases List.mem_append.1 hy with hy | hy
      · obtain ⟨a, b, c⟩ := hx.inP y hy
        exact ⟨List.mem_cons_of_mem _ (List.mem_cons_of_mem _ a), b, c⟩
      · simp at hy; subst hy
        exact ⟨List.mem_cons_of_mem _ List.mem_cons_self, h64, by simp only; omega⟩
  have hS7' : Sep B w7 (dl d ⟨x.sS, x.sN, sP', x.safe, x.now.set j ⟨s2, bs, false⟩, x.pend ++ [⟨j, s1, bs⟩], x.tp, x.ks, (s2, bs) :: (s1, bs) :: x.L⟩ (addD st (j : Int).toNat bs).off (addD st (j : Int).toNat bs).trip ++ R) := by
    have e1 : flat Wt.cells (x.pend ++ [⟨j, s1, bs⟩]) = flat Wt.cells x.pend ++ [.int .i64 (j : Int), .slice s1.a s1.len s1.cap] := by rw [flat_app, flat_one]; rfl
    unfold dl
    simp only [List.length_append, List.length_cons, List.length_nil, Nat.zero_add, List.length_set, e1]
    exact hS7
  refine (trips_core hx7 hr hoff hS7' (by show (st.pend ++ [_]).length ≤ _; rw [List.length_append]; have := wf.pend; simp; omega) wf.keep).mono ?_
  rintro _ w8 ⟨rfl, hS8, hb8⟩
  have e : writeD st (j : Int) bs = (if (tripsD (addD st (j : Int).toNat bs)).1 = true then 9 else 0, (tripsD (addD st (j : Int).toNat bs)).2) := by
    rw [writeD, if_neg (by simp [h0]), if_neg (by omega)]
  rw [e]
  refine ⟨_, rfl, cond_c (fun hh => ⟨by rw [if_pos hh], hS8, hB7.trans hb8⟩) fun hh => ⟨by rw [if_neg (by rw [hh]; simp)], hS8, hB7.trans hb8⟩⟩

end Go.Proofs.YtledhokhcoeeeaaDoor

/-
  Disk: syncs, and new disks: contracts.
-/
set_option linter.unusedVariables false
set_option linter.unusedSimpArgs false
namespace Go.Proofs.YtledhokhcoeeeaaDoor
open Go.Lf Go.RowKit

theorem sync_spec {B : Nat} {w : World} {d : Addr} {st : DS} {R : List Asn} (h : Sep B w (diskA d st :: R)) (wf : WfD st) :
    CallsV Tryd.prog n_disk_Disk_Sync #[.pointer (some d)] w fun v w' => v = .int .i64 (syncD st).1 ∧ Sep B w' (diskA d (syncD st).2 :: R) ∧ Below B w w' := by
  obtain ⟨x, ⟨hx, hr⟩, hS⟩ := h.unfold
  refine disk_Disk_Sync.lift ?_
  unfold disk_Disk_Sync.main
  refine ⟨d, rfl, st.off, hS.cell 0 rfl 3 rfl, cond_c (fun ho => ⟨by rw [syncD, if_pos ho], by rw [syncD, if_pos ho]; exact h, Below.refl _ _⟩) fun ho => ?_⟩
  refine (trips_core hx hr ho hS (by have := wf.pend; omega) wf.keep).mono ?_
  rintro _ w0 ⟨rfl, h0, hb0⟩
  refine ⟨_, rfl, cond_c (fun ht => ⟨by rw [syncD, if_neg (by rw [ho]; simp), if_pos ht], by rw [syncD, if_neg (by rw [ho]; simp), if_pos ht]; exact h0, hb0⟩) fun ht => ?_⟩
  rw [syncD, if_neg (by rw [ho]; simp), if_neg (by rw [ht]; simp)]
  have hp0 : (tripsD st).2.pend = st.pend := by
    unfold tripsD at ht ⊢
    cases hh : st.trip with
    | none => rfl
    | some t =>
      obtain ⟨n, keep, torn⟩ := t
      rw [hh] at ht
      dsimp only at ht ⊢
      split
      · rfl
      · rename_i hc; rw [if_neg hc] at ht; cases ht
  have hpl := wf.pend
  rw [← hp0] at hpl
  have hle := h.le
  clear hp0 hx hr hS h ho ht x
  generalize (tripsD st).2 = st at *
  obtain ⟨x, ⟨hx, hr⟩, hS⟩ := h0.unfold
  unfold disk_Disk_Sync.c3
  have hpl' : x.pend.length ≤ 1000000 := by rw [hx.pend, List.length_map] at hpl; exact hpl
  have hlP := (hS.rowLen 3 rfl).1
  refine ⟨d, rfl, _, _, _, hS.cell 0 rfl 2 rfl, ?_⟩
  unfold disk_Disk_Sync.l2
  refine ⟨fun t w' => ∃ k : Nat, t = k ∧ k ≤ x.pend.length ∧ ∃ cur : List Sc, cur.length = x.safe.length ∧ (∀ y ∈ cur, ScOk x.L y) ∧ nowOf st.safe st.pend = nowOf (cur.map Sc.val) (st.pend.drop k) ∧
    Sep B w' (dl d { x with safe := cur } st.off st.trip ++ R) ∧ Below B w w', fun t _ => x.pend.length - t.toNat, ⟨0, rfl, Nat.zero_le _, x.safe, rfl, hx.inS, by rw [hx.safe]; rfl, hS, hb0⟩, ?_⟩
  rintro _ w1 ⟨k, rfl, hkl, cur, hcl, hcok, hcs, hS, hb⟩
  unfold disk_Disk_Sync.b2
  refine cond_d (fun hlt => ?_) fun hge => ?_
  · have hkP : k < x.pend.length := by omega
    obtain ⟨y, hy⟩ : ∃ y, x.pend[k]? = some y := ⟨_, List.getElem?_eq_getElem hkP⟩
    obtain ⟨hyL, hy64, hyi⟩ := hx.inP y (List.mem_of_getElem? hy)
    have hyP : st.pend[k]? = some y.val := by rw [hx.pend, List.getElem?_map, hy]; rfl
    obtain ⟨q, hq, hc⟩ := hS.rowGet 3 (by omega) Wt.w rfl hy
    have hc0 := hc 0 _ rfl
    rw [add_zero] at hc0
    have hlS := (hS.rowLen 1 rfl).1
    have hlS' : x.sS.len = x.safe.length := by rw [← hcl]; exact hlS
    refine ⟨by omega, hlt, q, hq, _, by rw [Int.toNat_natCast]; exact hc0, _, _, _, by rw [Int.toNat_natCast]; exact hc 1 _ rfl, ?_⟩
    refine ⟨fun j hj => wr_new _ _ _ (by simpa using hj), ?_⟩
    intro w8
    have e8 : w8 = w1.alloc (.cells #[.int .i64 (y.i : Int), .slice y.s.a y.s.len y.s.cap] 74) := box_set2
    clear_value w8
    have hb8 : Below w1.heap.size w1 w8 := by rw [e8]; exact below_alloc _ _
    have hS8 := hS.keep hb8
    have hB8 : Below B w w8 := hb.next hb8 hle
    have n0 : w8.cell? (newA w1) = some (.int .i64 (y.i : Int)) := by rw [e8]; exact cell_new0 _ _ _
    have n1 : w8.cell? ((newA w1).add 1) = some (.slice y.s.a y.s.len y.s.cap) := by rw [e8]; exact cell_new _ _ _ 1
    have hyc : y.i < cur.length := by omega
    obtain ⟨qS, hqS, _⟩ := hS.rowCell 1 rfl (j := 0) (by rw [flat_length Sc.w]; have := hx.pos; show 0 < cur.length * 2; omega)
    have hqS' : x.sS.a = some qS := hqS
    obtain ⟨hw, hSn, hbn⟩ := hS8.drew.rowEl 1 Sc.w (xs := cur) rfl hqS' hyc ⟨y.s, y.xs, false⟩
    refine ⟨fun u => u.cell? d = some (.slice x.sS.a x.sS.len x.sS.cap) ∧ u.cell? (newA w1) = some (.int .i64 (y.i : Int)) ∧ u.cell? ((newA w1).add 1) = some (.slice y.s.a y.s.len y.s.cap), ⟨hS8.cell0 0 rfl rfl, n0, n1⟩, d, rfl, _, _, _, fun u hu => hu.1, _, fun u hu => hu.2.1, _, _, _, fun u hu => hu.2.2, by omega, by omega, qS, hqS', by rw [Int.toNat_natCast]; exact hw, ?_⟩
    rw [Int.toNat_natCast, inc (by omega)]
    refine ⟨⟨rfl, rfl, rfl, k + 1, rfl, hkP, cur.set y.i ⟨y.s, y.xs, false⟩, by rw [List.length_set, hcl], ?_, ?_, ?_, (hB8.trans ((Same.drew w8).below B)).trans hbn⟩, by (try dsimp only); omega⟩
    · intro u hu
      rcases List.mem_or_eq_of_mem_set hu with hu | rfl
      · exact hcok u hu
      · exact .inr ⟨rfl, hyL, hy64⟩
    · rw [hcs, drop_at hyP, List.map_set]; rfl
    · unfold dl at hSn ⊢
      simp only [List.cons_append, List.set_cons_succ, List.set_cons_zero, List.length_set] at hSn ⊢
      exact hSn
  · have hke : k = x.pend.length := by omega
    have hcs' : nowOf st.safe st.pend = cur.map Sc.val := by
      rw [hcs, List.drop_eq_nil_of_le (by rw [hx.pend, List.length_map]; omega)]; rfl
    unfold disk_Disk_Sync.c1
    obtain ⟨h2, hb2⟩ := hS.set 0 rfl (j := 2) (by simp) (.slice none 0 0)
    have h3 := h2.triv (A := rowA 74 2 ⟨none, 0, 0⟩ 0 []) 3 (by simp [dl]) fun F => ⟨World.ownsRow_nil _ _ _ _, fun q hq => by cases hq⟩
    refine ⟨d, rfl, hS.wr 0 rfl (j := 2) (by simp), rfl, ?_, hb.trans hb2⟩
    exact Sep.fold { x with safe := cur, pend := [], sP := ⟨none, 0, 0⟩ } ⟨⟨hcs', rfl, hx.now, by have := hx.pos; simp only; omega, by have := hx.few; simp only; omega, hcok, hx.inN, (fun y hy => by cases hy), hx.tp0, hx.tp1⟩, hr⟩ h3

def newD (n : Nat) : DS := ⟨List.replicate n (some (List.replicate 64 0)), [], false, none⟩

theorem new_bad (n : Int) (w : World) (hn : n < 1 ∨ 512 < n) : CallsV Tryd.prog n_disk_New #[.int .i64 n] w fun v w' => v = .tuple #[.pointer none, .int .i64 1] ∧ w = w' := by
  refine disk_New.lift ?_
  unfold disk_New.main
  refine cond_d (fun _ => ⟨rfl, rfl⟩) fun h1 => cond_d (fun _ => ⟨rfl, rfl⟩) fun h2 => ?_
  omega

theorem new_spec {B : Nat} {w : World} {R : List Asn} (h : Sep B w R) (n : Nat) (h1 : 1 ≤ n) (h512 : n ≤ 512) : CallsV Tryd.prog n_disk_New #[.int .i64 (n : Int)] w fun v w' => ∃ d : Addr, v = .tuple #[.pointer (some d), .int .i64 0] ∧ Sep B w' (diskA d (newD n) :: R) ∧ Below B w w' := by
  refine disk_New.lift ?_
  unfold disk_New.main
  refine cond_d (fun _ => by omega) fun _ => cond_d (fun _ => by omega) fun _ => ?_
  unfold disk_New.c3
  intro w7
  obtain ⟨hA, hb7⟩ := Sep.box h [.slice none 0 0, .slice none 0 0, .slice none 0 0, .bool false, .pointer none] 55
  have hd : newA w = newA w := rfl
  generalize hdd : newA w = d at *
  clear hd
  have h7 : Sep B w7 (dl d ⟨⟨none, 0, 0⟩, ⟨none, 0, 0⟩, ⟨none, 0, 0⟩, [], [], [], none, ⟨none, 0, 0⟩, []⟩ false none ++ R) := by
    have hz : ∀ e s F (u : World), (rowA e s ⟨none, 0, 0⟩ 0 []).on F u := fun e s F u => ⟨World.ownsRow_nil _ _ _ _, fun q hq => by cases hq⟩
    have hnew : ∀ {A : Asn} {l : List Asn}, (∀ F (u : World), A.on F u) → Sep B w7 l → Sep B w7 (A :: l) := fun hA hl => hl.new (F := fun _ => False) (hA _ _) (fun _ hh => hh.elim) (Below.refl _ _)
    have h5 : Sep B w7 (boxA d [.slice none 0 0, .slice none 0 0, .slice none 0 0, .bool false, .pointer none] :: rowA 57 2 ⟨none, 0, 0⟩ 0 [] :: rowA 57 2 ⟨none, 0, 0⟩ 0 [] :: rowA 74 2 ⟨none, 0, 0⟩ 0 [] :: noneA :: rowA 4 1 ⟨none, 0, 0⟩ 0 [] :: intsAll .u8 [] :: R) := by
      have g0 := (hA.intsNil .u8).swap
      have g1 := (hnew (hz 4 1) g0).swap
      have g2 := (hnew (A := noneA) (fun _ _ => trivial) g1).swap
      have g3 := (hnew (hz 74 2) g2).swap
      have g4 := (hnew (hz 57 2) g3).swap
      exact (hnew (hz 57 2) g4).swap
    exact h5
  unfold disk_New.l2
  refine ⟨fun t w' => ∃ k : Nat, t = k ∧ k ≤ n ∧ ∃ (sS : Sl) (cur : List Sc) (L : List (Sl × List Int)), cur.length = k ∧ (∀ y ∈ cur, ScOk L y) ∧ cur.map Sc.val = List.replicate k (some (List.replicate 64 0)) ∧
    Sep B w' (dl d ⟨sS, ⟨none, 0, 0⟩, ⟨none, 0, 0⟩, cur, [], [], none, ⟨none, 0, 0⟩, L⟩ false none ++ R) ∧ Below B w w', fun t _ => n - t.toNat, ⟨0, rfl, Nat.zero_le _, ⟨none, 0, 0⟩, [], [], rfl, (fun y hy => by cases hy), rfl, h7, hb7⟩, ?_⟩
  rintro _ w1 ⟨k, rfl, hkl, sS, cur, L, hcl, hcok, hcv, hS, hb⟩
  unfold disk_New.b2
  refine cond_d (fun hlt => ?_) fun hge => ?_
  · have hk : k < n := by omega
    refine ⟨fun u => u.cell? d = some (.slice sS.a sS.len sS.cap), hS.cell0 0 rfl rfl, d, rfl, _, _, _, fun u hu => hu, by omega, by omega, by omega, by omega, ?_⟩
    have hmk := make_ints (w := w1.drew) (n := 64) (e := 5) (k := .u8) (by unfold maxLen; omega)
    intro w3
    have hb3 : Below w1.drew.heap.size w1.drew w3 := below_alloc _ _
    have hS3 := Sep.intsMore (l := dl d ⟨sS, ⟨none, 0, 0⟩, ⟨none, 0, 0⟩, cur, [], [], none, ⟨none, 0, 0⟩, L⟩ false none ++ R) 6 rfl hS.drew hmk (by simp) hb3
    have hB3 : Below B w w3 := (hb.trans ((Same.drew w1).below B)).next hb3 h.le
    refine ⟨hS3.cell0 0 rfl rfl, ?_⟩
    intro w4
    obtain ⟨hS4, hb4⟩ := Sep.box hS3 [.slice (some (newA w1.drew)) 64 64, .bool false] 57
    have hnew : ∀ (m : Nat) u, ([.slice (some (newA w1.drew)) 64 64, .bool false] : List Value)[m]? = some u → w4.cell? ((newA w3).add m) = some u := fun m u hu => hS4.cell 0 rfl m hu
    obtain ⟨ii, hi, hz, hsz, hby⟩ := t57
    obtain ⟨sS', w5, hrun, hlS', hS5, hb5⟩ := Sep.append (ty := 51) (c := 1) Tryd.underlying51 hi hz hsz hby rfl (by omega) 1 rfl hS4.drop (m := 1) (news := [.slice (some (newA w1.drew)) 64 64, .bool false]) rfl hnew (by intro u hu; simp at hu; rcases hu with rfl | rfl <;> rfl) (by unfold maxLen; simp only; omega) (by simp only; omega) (by omega)
    refine ⟨hS4.drop.cell0 0 rfl rfl, _, _, _, _, hrun, d, rfl, hS5.wr0 0 rfl (by simp), ?_⟩
    intro w6
    obtain ⟨hS6, hb6⟩ := hS5.set0 0 rfl (by simp) (.slice sS'.a sS'.len sS'.cap)
    rw [inc (by omega)]
    refine ⟨⟨rfl, rfl, k + 1, rfl, hk, sS', cur ++ [⟨⟨some (newA w1.drew), 64, 64⟩, List.replicate 64 0, false⟩], (⟨some (newA w1.drew), 64, 64⟩, List.replicate 64 0) :: L, by simp [hcl], ?_, ?_, ?_, ((hB3.trans hb4).trans hb5).trans hb6⟩, by (try dsimp only); omega⟩
    · intro y hy
      rcases List.mem_append.1 hy with hy | hy
      · exact (hcok y hy).imp id fun ⟨a, b, c⟩ => ⟨a, List.mem_cons_of_mem _ b, c⟩
      · simp at hy; subst hy
        exact .inr ⟨rfl, List.mem_cons_self, by simp⟩
    · rw [List.map_append, hcv]; exact (List.replicate_succ' (n := k) (a := some (List.replicate 64 (0 : Int)))).symm
    · have e1 : flat Sc.cells (cur ++ [⟨⟨some (newA w1.drew), 64, 64⟩, List.replicate 64 0, false⟩]) = flat Sc.cells cur ++ [.slice (some (newA w1.drew)) 64 64, .bool false] := by rw [flat_app, flat_one]; rfl
      unfold dl
      simp only [List.length_append, List.length_cons, List.length_nil, Nat.zero_add, e1]
      exact hS6
  · have hke : k = n := by omega
    subst hke
    unfold disk_New.c1
    refine ⟨d, rfl, _, _, _, hS.cell0 0 rfl rfl, ?_⟩
    refine (cloneS_spec 1 (xs := cur) rfl hS (fun hn => by rw [hn] at hcl; simp at hcl; omega) (by omega)).mono ?_
    rintro _ w2 ⟨s', rfl, hS2, hb2⟩
    refine ⟨_, _, _, rfl, d, rfl, ?_⟩
    have hS3 := Sep.swapIn (l := dl d ⟨sS, ⟨none, 0, 0⟩, ⟨none, 0, 0⟩, cur, [], [], none, ⟨none, 0, 0⟩, L⟩ false none ++ R) 2 (by simp [dl]) hS2
    refine ⟨hS3.wr 0 rfl (j := 1) (by simp), ?_⟩
    obtain ⟨hS4, hb4⟩ := hS3.set 0 rfl (j := 1) (by simp) (.slice s'.a s'.len s'.cap)
    refine ⟨d, rfl, ?_, (hb.next hb2 h.le).trans hb4⟩
    exact Sep.fold ⟨sS, s', ⟨none, 0, 0⟩, cur, cur, [], none, ⟨none, 0, 0⟩, L⟩ ⟨⟨hcv.symm, rfl, hcv.symm, by simp only; omega, by simp only; omega, hcok, hcok, (fun y hy => by cases hy), (fun _ => rfl), (fun t ht => by cases ht)⟩, fun t ht => by cases ht⟩ hS4

end Go.Proofs.YtledhokhcoeeeaaDoor

/-
  Disk: sectors, bytes held against one another, the wake; what the state of a disk becomes: small laws.
-/
set_option linter.unusedVariables false
set_option linter.unusedSimpArgs false
namespace Go.Proofs.YtledhokhcoeeeaaDoor
open Go.Lf Go.RowKit

def padI (xs : List Int) : List Int := xs.take 64 ++ (List.replicate 64 0).drop xs.length
theorem padI_len (xs : List Int) : (padI xs).length = 64 := by simp [padI]; omega

theorem info5 : (Tryd.prog.info? 5).map (·.size) = some 1 := by kernel_rfl

theorem bytes_spec {w : World} {s t : Sl} {xs ys : List Int} (h : Ints .u8 w s xs) (h' : Ints .u8 w t ys) :
    CallsV Tryd.prog n_trystkeep_Bytes #[.slice s.a s.len s.cap, .slice t.a t.len t.cap] w fun v w' => v = .bool (decide (xs = ys)) ∧ Same w w' := by
  refine trystkeep_Bytes.lift ?_
  have hl := h.len
  have hl' := h'.len
  have hsm := h.small
  unfold trystkeep_Bytes.main
  refine cond_n (fun hne => ⟨by rw [decide_eq_false (fun he => hne (by rw [hl, hl', he]))], Same.refl _⟩) fun he => ?_
  unfold trystkeep_Bytes.l1
  refine ⟨fun st w' => Same w w' ∧ ∃ k : Nat, st = k ∧ k ≤ xs.length ∧ xs.take k = ys.take k, fun st _ => xs.length - st.toNat, ⟨Same.refl _, 0, rfl, Nat.zero_le _, rfl⟩, ?_⟩
  rintro _ w' ⟨hs, k, rfl, hle, htk⟩
  unfold trystkeep_Bytes.b1
  refine cond_d (fun hlt => ?_) fun hge => ⟨?_, hs⟩
  · obtain ⟨p, hp, hc⟩ := (h.same hs).get (i := (k : Int)) (by omega) (by omega)
    obtain ⟨q, hq, hd⟩ := (h'.same hs).get (i := (k : Int)) (by omega) (by omega)
    refine ⟨by omega, by omega, p, hp, _, hc, by omega, by omega, q, hq, _, hd, ?_⟩
    have hk : k < xs.length := by omega
    have hk' : k < ys.length := by omega
    rw [Int.toNat_natCast, List.getElem?_eq_getElem hk, List.getElem?_eq_getElem hk', Option.getD_some, Option.getD_some, inc (by omega)]
    refine cond_n (fun hne => ⟨?_, hs.drew'⟩) fun heq => ?_
    · rw [decide_eq_false]
      intro hxy
      subst hxy
      exact hne rfl
    · refine ⟨⟨rfl, rfl, hs.drew', k + 1, rfl, by omega, ?_⟩, by (try dsimp only); omega⟩
      rw [List.take_succ_eq_append_getElem hk, List.take_succ_eq_append_getElem hk', htk, heq]
  · rw [decide_eq_true]
    rwa [List.take_of_length_le (by omega), List.take_of_length_le (by omega)] at htk

/-! the states -/

def hitT : Option (Int × List Bool × Int) → Bool
  | some (n, _, _) => !decide (n - 1 > 0)
  | none => false
def decT : Option (Int × List Bool × Int) → Option (Int × List Bool × Int)
  | some (n, k, t) => some (n - 1, k, t)
  | none => none
def tornOf : Option (Int × List Bool × Int) → Int
  | some (_, _, t) => t
  | none => 0

theorem tripsD_eq {st : DS} (h : st.off = false) : tripsD st = if hitT st.trip = true then (true, ⟨crashSafe (keepOf st.trip) (tornOf st.trip) 0 st.pend st.safe, [], true, none⟩) else (false, { st with trip := decT st.trip }) := by
  obtain ⟨safe, pend, off, trip⟩ := st
  dsimp only at h ⊢
  subst h
  cases trip with
  | none => rfl
  | some t =>
    obtain ⟨n, k, t⟩ := t
    have e : tripsD ⟨safe, pend, false, some (n, k, t)⟩ = if n - 1 > 0 then (false, ⟨safe, pend, false, some (n - 1, k, t)⟩) else (true, crashD ⟨safe, pend, false, some (n - 1, k, t)⟩ k t) := rfl
    rw [e]
    by_cases hn : n - 1 > 0
    · have hh : hitT (some (n, k, t)) = false := by simp [hitT]; omega
      rw [if_pos hn, if_neg (by rw [hh]; simp)]; rfl
    · have hh : hitT (some (n, k, t)) = true := by simp [hitT]; omega
      rw [if_neg hn, if_pos hh]; rfl

theorem crashSafe_length (keep : List Bool) (torn : Int) : ∀ (p : List (Nat × List Int)) (k : Nat) (s : List (Option (List Int))), (crashSafe keep torn k p s).length = s.length
  | [], _, _ => rfl
  | x :: r, k, s => by
    unfold crashSafe
    rw [crashSafe_length keep torn r (k + 1)]
    split
    · simp
    · split <;> simp

structure Wf (n : Nat) (st : DS) : Prop where
  pend : st.pend.length ≤ n
  keep : ∀ t, st.trip = some t → t.2.1.length ≤ 1000000000
theorem Wf.d {n : Nat} {st : DS} (h : Wf n st) (hn : n ≤ 1000000) : WfD st := ⟨Nat.le_trans h.pend hn, h.keep⟩
theorem Wf.mono {n m : Nat} {st : DS} (h : Wf n st) (hn : n ≤ m) : Wf m st := ⟨Nat.le_trans h.pend hn, h.keep⟩
theorem Wf.new (n : Nat) : Wf 0 (newD n) := ⟨Nat.zero_le _, fun t h => by cases h⟩
theorem Wf.start {n : Nat} {st : DS} (h : Wf n st) : Wf n (startD st) := ⟨h.pend, h.keep⟩
theorem Wf.crash {n : Nat} {st : DS} (h : Wf n st) (keep : List Bool) (torn : Int) : Wf n (crashD st keep torn) := by
  unfold crashD
  split
  · exact h
  · exact ⟨Nat.zero_le _, fun t h => by cases h⟩
theorem Wf.tripD {n : Nat} {st : DS} (h : Wf n st) {keep : List Bool} (hk : keep.length ≤ 1000000000) (m torn : Int) : Wf n (tripD st m keep torn) := by
  refine ⟨h.pend, fun t ht => ?_⟩
  simp only [Proofs.YtledhokhcoeeeaaDoor.tripD] at ht
  split at ht
  · obtain rfl := Option.some.inj ht; exact hk
  · cases ht
theorem Wf.trips {n : Nat} {st : DS} (h : Wf n st) (ho : st.off = false) : Wf n (tripsD st).2 := by
  rw [tripsD_eq ho]
  split
  · exact ⟨Nat.zero_le _, fun t h => by cases h⟩
  · refine ⟨h.pend, fun t ht => ?_⟩
    dsimp only at ht
    cases hh : st.trip with
    | none => rw [hh] at ht; cases ht
    | some u =>
      obtain ⟨a, b, c⟩ := u
      rw [hh] at ht
      obtain rfl := Option.some.inj ht
      exact h.keep (a, b, c) hh
theorem wrongD_off {st : DS} {i : Int} (h : wrongD st i = 0) : st.off = false ∧ 0 ≤ i ∧ i < (st.safe.length : Int) := by
  unfold wrongD at h
  cases ho : st.off with
  | true => rw [ho] at h; simp at h
  | false =>
    rw [ho] at h
    simp only [Bool.false_eq_true, if_false] at h
    split at h
    · cases h
    · exact ⟨rfl, by omega⟩
theorem Wf.write {n : Nat} {st : DS} (h : Wf n st) (i : Int) (b : List Int) : Wf (n + 1) (writeD st i b).2 := by
  unfold writeD
  split
  · exact h.mono (by omega)
  · rename_i h0
    split
    · exact h.mono (by omega)
    · have ho := (wrongD_off (Decidable.not_not.1 h0)).1
      refine Wf.trips (n := n + 1) (st := addD st i.toNat b) ⟨?_, h.keep⟩ ho
      have := h.pend
      simp [addD]; omega
theorem Wf.sync {n : Nat} {st : DS} (h : Wf n st) : Wf n (syncD st).2 := by
  unfold syncD
  split
  · exact h
  · rename_i h0
    have ht := h.trips (by simpa using h0)
    split
    · exact ht
    · exact ⟨Nat.zero_le _, ht.keep⟩

theorem BoolsR.of_els {w : World} {s : Sl} {bs : List Bool} (h : Els 1 BoolC w s bs) : BoolsR w s bs := by
  refine ⟨h.len, fun i b hb => ?_⟩
  obtain ⟨p, cs, hp, _, hc, he⟩ := h.el i b hb
  have he : cs = [.bool b] := he
  subst he
  exact ⟨p, hp, by have := hc 0 _ rfl; simpa using this⟩

/-! the wake -/


end Go.Proofs.YtledhokhcoeeeaaDoor
