/-
  Disk: what a disk is in memory; what its operations answer; reading it.
-/
import Derived.Test.YtnnpkjhpeefnbaaLiftOwn
import Derived.Test.YtnnpkjhpeefnbaaDiFns
set_option linter.unusedVariables false
set_option linter.unusedSimpArgs false
namespace Go.Proofs.Ytnnpkjhpeefnbaa
open Go.Lf Go.RowKit

/-! what a disk is, and what is answered -/

structure DS where
  safe : List (Option (List Int))
  pend : List (Nat × List Int)
  off : Bool
  trip : Option (Int × List Bool × Int)

def nowOf (safe : List (Option (List Int))) (pend : List (Nat × List Int)) : List (Option (List Int)) := pend.foldl (fun l p => l.set p.1 (some p.2)) safe
def wrongD (st : DS) (i : Int) : Int := if st.off = true then 9 else if i < 0 ∨ (st.safe.length : Int) ≤ i then 1 else 0
def readD (st : DS) (i : Int) : List Int × Int := if wrongD st i ≠ 0 then ([], wrongD st i) else
  match (nowOf st.safe st.pend)[i.toNat]?.getD none with
  | none => ([], 10)
  | some b => (b, 0)
def crashSafe (keep : List Bool) (torn : Int) : Nat → List (Nat × List Int) → List (Option (List Int)) → List (Option (List Int))
  | _, [], s => s
  | k, p :: r, s => crashSafe keep torn (k + 1) r (if (k : Int) = torn then s.set p.1 none else if keep[k]?.getD false = true then s.set p.1 (some p.2) else s)
def crashD (st : DS) (keep : List Bool) (torn : Int) : DS := if st.off = true then st else ⟨crashSafe keep torn 0 st.pend st.safe, [], true, none⟩
def tripsD (st : DS) : Bool × DS := match st.trip with
  | none => (false, st)
  | some (n, keep, torn) => if n - 1 > 0 then (false, { st with trip := some (n - 1, keep, torn) }) else (true, crashD { st with trip := some (n - 1, keep, torn) } keep torn)
def addD (st : DS) (i : Nat) (b : List Int) : DS := { st with pend := st.pend ++ [(i, b)] }
def writeD (st : DS) (i : Int) (b : List Int) : Int × DS := if wrongD st i ≠ 0 then (wrongD st i, st) else if b.length ≠ 64 then (2, st) else
  (if (tripsD (addD st i.toNat b)).1 = true then 9 else 0, (tripsD (addD st i.toNat b)).2)
def syncD (st : DS) : Int × DS := if st.off = true then (9, st) else if (tripsD st).1 = true then (9, (tripsD st).2) else
  (0, { (tripsD st).2 with safe := nowOf (tripsD st).2.safe (tripsD st).2.pend, pend := [] })
def startD (st : DS) : DS := { st with off := false }
def tripD (st : DS) (n : Int) (keep : List Bool) (torn : Int) : DS := { st with trip := if n ≥ 1 then some (n, keep, torn) else none }

/-! a disk in memory -/

structure Sc where
  s : Sl
  xs : List Int
  torn : Bool
def Sc.cells (x : Sc) : List Value := [.slice x.s.a x.s.len x.s.cap, .bool x.torn]
def Sc.val (x : Sc) : Option (List Int) := if x.torn = true then none else some x.xs
structure Wt where
  i : Nat
  s : Sl
  xs : List Int
def Wt.cells (x : Wt) : List Value := [.int .i64 (x.i : Int), .slice x.s.a x.s.len x.s.cap]
def Wt.val (x : Wt) : Nat × List Int := (x.i, x.xs)
theorem Sc.w (x : Sc) : x.cells.length = 2 := rfl
theorem Wt.w (x : Wt) : x.cells.length = 2 := rfl

structure DC where
  sS : Sl
  sN : Sl
  sP : Sl
  safe : List Sc
  now : List Sc
  pend : List Wt
  tp : Option Addr
  ks : Sl
  L : List (Sl × List Int)

def noneA : Asn where
  on _ _ := True
  loc := fun _ _ => trivial
  grow := fun _ _ => trivial
def boxO (p : Option Addr) (cs : List Value) : Asn := match p with
  | none => noneA
  | some q => boxA q cs
def tripC (t : Option (Int × List Bool × Int)) (ks : Sl) : List Value := match t with
  | none => []
  | some (n, _, torn) => [.int .i64 n, .slice ks.a ks.len ks.cap, .int .i64 torn]
def keepOf (t : Option (Int × List Bool × Int)) : List Bool := match t with
  | none => []
  | some (_, keep, _) => keep

def dl (d : Addr) (x : DC) (off : Bool) (t : Option (Int × List Bool × Int)) : List Asn :=
  [boxA d [.slice x.sS.a x.sS.len x.sS.cap, .slice x.sN.a x.sN.len x.sN.cap, .slice x.sP.a x.sP.len x.sP.cap, .bool off, .pointer x.tp],
   rowA 82 2 x.sS x.safe.length (flat Sc.cells x.safe), rowA 82 2 x.sN x.now.length (flat Sc.cells x.now), rowA 86 2 x.sP x.pend.length (flat Wt.cells x.pend),
   boxO x.tp (tripC t x.ks), rowA 4 1 x.ks (keepOf t).length ((keepOf t).map Value.bool), intsAll .u8 x.L]

def ScOk (L : List (Sl × List Int)) (y : Sc) : Prop := y.torn = true ∨ (y.torn = false ∧ (y.s, y.xs) ∈ L ∧ y.xs.length = 64)

structure DOk (x : DC) (st : DS) : Prop where
  safe : st.safe = x.safe.map Sc.val
  pend : st.pend = x.pend.map Wt.val
  now : nowOf st.safe st.pend = x.now.map Sc.val
  pos : 1 ≤ x.safe.length
  few : x.safe.length ≤ 512
  inS : ∀ y ∈ x.safe, ScOk x.L y
  inN : ∀ y ∈ x.now, ScOk x.L y
  inP : ∀ y ∈ x.pend, (y.s, y.xs) ∈ x.L ∧ y.xs.length = 64 ∧ y.i < x.safe.length
  tp0 : st.trip = none → x.tp = none
  tp1 : ∀ t, st.trip = some t → ∃ q, x.tp = some q

def Rng (st : DS) : Prop := ∀ t, st.trip = some t → 1 ≤ t.1 ∧ t.1 ≤ 9223372036854775807

def diskA (d : Addr) (st : DS) : Asn := exA (fun x => DOk x st ∧ Rng st) (fun x => dl d x st.off st.trip)

theorem nowOf_length : ∀ (p : List (Nat × List Int)) (s : List (Option (List Int))), (nowOf s p).length = s.length
  | [], _ => rfl
  | x :: r, s => by
    show (nowOf (s.set x.1 (some x.2)) r).length = _
    rw [nowOf_length r, List.length_set]

theorem DOk.lenN {x : DC} {st : DS} (h : DOk x st) : x.now.length = x.safe.length := by
  have := congrArg List.length h.now
  rw [nowOf_length, h.safe] at this
  simpa using this.symm

/-! the contracts of what only reads -/

theorem wrong_spec {B : Nat} {w : World} {d : Addr} {x : DC} {st : DS} {R : List Asn} (hx : DOk x st) (h : Sep B w (dl d x st.off st.trip ++ R)) (i : Int) :
    CallsV Try.prog n_disk_Disk_wrong #[.pointer (some d), .int .i64 i] w fun v w' => v = .int .i64 (wrongD st i) ∧ w = w' := by
  refine disk_Disk_wrong.lift ?_
  unfold disk_Disk_wrong.main
  have hl := (h.rowLen 1 rfl).1
  have hsl : st.safe.length = x.safe.length := by rw [hx.safe, List.length_map]
  refine ⟨d, rfl, st.off, h.cell 0 rfl 3 rfl, cond_c (fun ho => ⟨by rw [wrongD, if_pos ho], rfl⟩) fun ho => ?_⟩
  refine cond_d (fun hi => ⟨by rw [wrongD, if_neg (by rw [ho]; simp), if_pos (.inl hi)], rfl⟩) fun hi => ?_
  refine ⟨d, rfl, _, _, _, h.cell0 0 rfl rfl, ?_⟩
  intro t
  have e : wrongD st i = if (st.safe.length : Int) ≤ i then 1 else 0 := by
    rw [wrongD, if_neg (by rw [ho]; simp)]
    by_cases hc : (st.safe.length : Int) ≤ i
    · rw [if_pos (.inr hc), if_pos hc]
    · rw [if_neg (by omega), if_neg hc]
  rw [e]
  refine cond_d (fun hc => ⟨by rw [if_pos (by omega)], rfl⟩) fun hc => ⟨by rw [if_neg (by omega)], rfl⟩

theorem t5 : ∃ i, Try.prog.info? 5 = some i ∧ i.zero = some (.int .u8 0) ∧ i.size = 1 ∧ i.bytes = 1 := ⟨Try.t5, by kernel_rfl, by kernel_rfl, by kernel_rfl, by kernel_rfl⟩
theorem t4 : ∃ i, Try.prog.info? 4 = some i ∧ i.zero = some (.bool false) ∧ i.size = 1 ∧ i.bytes = 1 := ⟨Try.t4, by kernel_rfl, by kernel_rfl, by kernel_rfl, by kernel_rfl⟩
theorem t82 : ∃ i, Try.prog.info? 82 = some i ∧ i.zero = some (.agg #[.slice none 0 0, .bool false]) ∧ i.size = 2 ∧ i.bytes = 32 := ⟨Try.t82, by kernel_rfl, by kernel_rfl, by kernel_rfl, by kernel_rfl⟩
theorem t86 : ∃ i, Try.prog.info? 86 = some i ∧ i.zero = some (.agg #[.int .i64 0, .slice none 0 0]) ∧ i.size = 2 ∧ i.bytes = 32 := ⟨Try.t86, by kernel_rfl, by kernel_rfl, by kernel_rfl, by kernel_rfl⟩

theorem cloneB_spec {w : World} {s : Sl} {xs : List Int} (h : Ints .u8 w s xs) (hx : xs.length ≤ 1000000000) :
    CallsV Try.prog n_slices_Clone_byte #[.slice s.a s.len s.cap] w fun v w' => ∃ s' : Sl, v = .slice s'.a s'.len s'.cap ∧ OwnI w.heap.size 5 .u8 w' s' xs ∧ Below w.heap.size w w' := by
  refine slices_Clone_byte.lift ?_
  unfold slices_Clone_byte.main
  refine cond_c (fun hn => ?_) fun hn => ?_
  · have hn' : s.a = none := by simpa using hn
    have : xs = [] := by
      cases xs with
      | nil => rfl
      | cons y r => obtain ⟨p, hp, _⟩ := h.cell 0 y rfl; rw [hn'] at hp; cases hp
    subst this
    exact ⟨⟨none, 0, 0⟩, rfl, OwnI.nil, Below.refl _ _⟩
  · obtain ⟨a, ha⟩ : ∃ a, s.a = some a := by
      cases hs : s.a with
      | none => rw [hs] at hn; cases hn
      | some a => exact ⟨a, rfl⟩
    obtain ⟨i, hi, hz, hsz, hby⟩ := t5
    obtain ⟨s', w', hr, ho, hb⟩ := clone_ints (ty := 52) Try.underlying52 hi hz hsz hby h ha (by unfold maxLen; omega) (by omega)
    exact ⟨_, _, _, _, hr, s', rfl, ho, hb⟩

theorem read_spec {B : Nat} {w : World} {d : Addr} {st : DS} {R : List Asn} (h : Sep B w (diskA d st :: R)) (i : Int) :
    CallsV Try.prog n_disk_Disk_Read #[.pointer (some d), .int .i64 i] w fun v w' => ∃ s : Sl, v = .tuple #[.slice s.a s.len s.cap, .int .i64 (readD st i).2] ∧ Ints .u8 w' s (readD st i).1 ∧
      Sep B w' (rowA 5 1 s (readD st i).1.length ((readD st i).1.map (Value.int .u8)) :: diskA d st :: R) ∧ Below w.heap.size w w' := by
  obtain ⟨x, ⟨hx, _⟩, hS⟩ := h.unfold
  refine disk_Disk_Read.lift ?_
  unfold disk_Disk_Read.main
  refine (wrong_spec hx hS i).mono ?_
  rintro _ _ ⟨rfl, rfl⟩
  have bad : ∀ e : Int, readD st i = ([], e) → (∃ s : Sl, (Value.tuple #[.slice none 0 0, .int .i64 e]) = .tuple #[.slice s.a s.len s.cap, .int .i64 (readD st i).2] ∧ Ints .u8 w s (readD st i).1 ∧
      Sep B w (rowA 5 1 s (readD st i).1.length ((readD st i).1.map (Value.int .u8)) :: diskA d st :: R) ∧ Below w.heap.size w w) := by
    intro e he
    rw [he]
    exact ⟨⟨none, 0, 0⟩, rfl, Ints.nil, h.rowNil 5 1, Below.refl _ _⟩
  refine ⟨_, rfl, cond_n (fun hne => bad _ (by rw [readD, if_pos hne])) fun h0 => ?_⟩
  have hlN := (hS.rowLen 2 rfl).1
  have hlen := hx.lenN
  have hsl : st.safe.length = x.safe.length := by rw [hx.safe, List.length_map]
  have hin : 0 ≤ i ∧ i < (x.now.length : Int) := by
    unfold wrongD at h0
    split at h0
    · cases h0
    · split at h0
      · cases h0
      · omega
  obtain ⟨y, hy⟩ : ∃ y, x.now[i.toNat]? = some y := ⟨_, List.getElem?_eq_getElem (by omega)⟩
  have hr : readD st i = match y.val with | none => ([], 10) | some b => (b, 0) := by
    rw [readD, if_neg (by simp [h0]), hx.now, List.getElem?_map, hy]; rfl
  obtain ⟨q, hq, hc⟩ := hS.rowGet 2 (by omega) Sc.w rfl hy
  have hN := hS.cell 0 rfl 1 rfl
  refine ⟨d, rfl, _, _, _, hN, hin.1, by omega, q, hq, y.torn, hc 1 _ rfl, cond_c (fun ht => bad _ (by rw [hr, Sc.val, if_pos ht])) fun ht => ?_⟩
  have hc0 := hc 0 _ rfl
  rw [add_zero] at hc0
  refine ⟨d, rfl, _, _, _, hN, hin.1, by omega, q, hq, _, _, _, hc0, ?_⟩
  have hok := hx.inN y (List.mem_of_getElem? hy)
  rcases hok with hok | ⟨_, hok, h64⟩
  · rw [hok] at ht; cases ht
  have hI := hS.intsAt 6 rfl hok
  have hv : readD st i = (y.xs, 0) := by rw [hr, Sc.val, if_neg (by rw [ht]; simp)]
  refine (cloneB_spec hI (by simp only; omega)).mono ?_
  rintro _ w' ⟨s', rfl, ho, hb⟩
  refine ⟨_, _, _, rfl, ?_⟩
  rw [hv]
  exact ⟨s', rfl, ho.ints (by simp only; omega), h.row ho hb, hb⟩

end Go.Proofs.Ytnnpkjhpeefnbaa
