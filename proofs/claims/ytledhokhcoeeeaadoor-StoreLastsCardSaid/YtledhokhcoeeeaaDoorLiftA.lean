/-
  Small laws for proofs over the lifted statements; the frame of a law's proof; slices of numbers; memory of the call's own.
-/
import Derived.Test.YtledhokhcoeeeaaDoorLift
import Derived.ProofKit
import Derived.OpenShut
import Derived.ChangeCalls
import Derived.Deep.Slices
import Derived.Maps.AppendAt
import Derived.Laws.CopyRow
import Derived.Deep.DeepHandedRow
import Derived.Lib.LaidTab
set_option linter.unusedVariables false
namespace Go.Lf
open Go Go.RowKit Go.ChangeShapes

/-! steps -/

theorem cond_c {c : Bool} {A B : Prop} (ht : c = true → A) (hf : c = false → B) : cond c A B := by
  cases c
  · exact hf rfl
  · exact ht rfl
theorem cond_d {p : Prop} [Decidable p] {A B : Prop} (ht : p → A) (hf : ¬ p → B) : cond (decide p) A B :=
  cond_c (fun h => ht (of_decide_eq_true h)) (fun h => hf (of_decide_eq_false h))
theorem cond_e {a b : Int} {A B : Prop} (ht : a = b → A) (hf : a ≠ b → B) : cond (a == b) A B :=
  cond_c (fun h => ht (by simpa using h)) (fun h => hf (by simpa using h))
theorem cond_n {a b : Int} {A B : Prop} (ht : a ≠ b → A) (hf : a = b → B) : cond (a != b) A B :=
  cond_c (fun h => ht (by simpa using h)) (fun h => hf (by simpa using h))
theorem cond_not {c : Bool} {A B : Prop} (hf : c = false → A) (ht : c = true → B) : cond (!c) A B := by
  cases c
  · exact hf rfl
  · exact ht rfl
theorem cond_t {c : Bool} {A B : Prop} (hc : c = true) (h : A) : cond c A B := by subst hc; exact h
theorem cond_f' {c : Bool} {A B : Prop} (hc : c = false) (h : B) : cond c A B := by subst hc; exact h

theorem w64 {n : Int} (h : -9223372036854775808 ≤ n ∧ n ≤ 9223372036854775807) : IntKind.i64.wrap n = n := by
  rw [IntKind.wrap_i64]; omega
theorem tmod_nn {a b : Int} (h : 0 ≤ a) : Int.tmod a b = a % b := Int.tmod_eq_emod_of_nonneg h
theorem tdiv_nn {a b : Int} (h : 0 ≤ a) : Int.tdiv a b = a / b := Int.tdiv_eq_ediv_of_nonneg h

theorem add_add (p : Addr) (i j : Nat) : (p.add i).add j = p.add (i + j) := by
  unfold Addr.add
  by_cases hi : i = 0 <;> by_cases hj : j = 0 <;> simp_all [Nat.add_assoc]
theorem add_zero (p : Addr) : p.add 0 = p := by simp [Addr.add]
theorem add_block (p : Addr) (i : Nat) : (p.add i).block = p.block := by unfold Addr.add; split <;> rfl

/-! the frame of a law's proof -/

theorem trodAll_below {H : Type} {enc : TypeId × Value → H} {P : Program} (hl : laidOutB P = true) {W W' : World} (hb : Below W.heap.size W W') : ∀ {ts : List TypeId} {vs : List Value} {ds : List (DataW H)} {ps : List MemPlace},
    (ts.all fun t => P.readableRec t && Nat.blt t P.types.size) = true → DataW.TrodAll enc P W 0 (fun _ => true) true ts vs ds ps →
    DataW.TrodAll enc P W' 0 (fun b => decide (b < W.heap.size)) true ts vs ds ps
  | [], vs, ds, ps, _, h => by
    obtain ⟨rfl, rfl, rfl⟩ := trodAll_nil h
    exact trodAll_mk0
  | t :: ts, vs, ds, ps, ht, h => by
    simp only [List.all_cons, Bool.and_eq_true] at ht
    have hlt := h.lt
    obtain ⟨v, vs', d, ds', p, q, rfl, rfl, rfl, h1, h2⟩ := trodAll_cons h
    exact trodAll_cons_mk (Below.trod hl ht.1.1 (by simpa [Nat.blt_eq] using ht.1.2) h1 hb (fun x hx => hlt x (List.mem_append_left _ hx))) (trodAll_below hl hb ht.2 h2)

theorem lawLifted {H : Type} {enc : TypeId × Value → H} {C : Checked} {os : Os} {f : FuncId} {fn : Func} {s : ChangeSpec} {conds : List PathCond} {tb : TypeId} {k : Nat} (own : ownKnob C.prog.godebug = none) (started : os.Started)
    (hi : C.prog.inits.idxOf? f = none) (hf : C.prog.funcs[f]? = some fn)
    (wit : ∃ (w : World) (tape : Tape) (i : Input), w.os = os ∧ World.Shaped C.prog (w.forCall tape i) ∧ i.vars = [] ∧ Input.okWide C.prog (w.forCall tape i) Reach.any w.heap.size f i ∧
      ChangeSpec.pre6 enc C.prog fn s conds false (w.forCall tape i).memory i.args ∧ ({} : Assume).holds C.prog (lone (Frame.enter C.prog f i.args CallKind.normal) [] (w.forCall tape i)))
    (hl : laidOutB C.prog = true) (hts : (fn.params.toList.all fun t => C.prog.readableRec t && Nat.blt t C.prog.types.size) = true) (hr : fn.resultTypes = #[tb]) (hb : C.prog.underlying tb = some .bool) (hv : s.vars = [])
    (hk : fn.params.toList.length = k) (hs : ∀ ds : List (DataW H), ds.length = k → s.fn H ds = { results := [.lit (.bool true)], args := ds })
    (walk : ∀ (W : World) (args : Array Value) (ds : List (DataW H)) (p : List MemPlace), DataW.TrodAll enc C.prog W 0 (fun _ => true) true fn.params.toList args.toList ds p →
      (∃ base, ∀ (j : Nat) (t : TypeId) (v : Value), fn.params[j]? = some t → args[j]? = some v → Value.okWide C.prog W Reach.any base t v) →
      CallsV C.prog f args W fun v W' => v = .bool true ∧ Below W.heap.size W W') :
    ReturnsInHanded {} C os f .any (s.pre6 enc C.prog fn conds false) (s.post enc C.prog fn false true false false) := by
  refine returnsInHanded_of_change own started hi hf wit ?_
  intro W base args ds gs before hval hW _ _
  have hW' := hW
  obtain ⟨p, q, hA, hV, hp, hfz, hnd⟩ := hW
  rw [hv] at hV
  obtain ⟨rfl, rfl⟩ := trodVars_none hV
  simp only [List.append_nil] at hp
  subst hp
  refine Calls.mono (walk W args ds before hA ⟨base, hval⟩) ?_
  rintro e W' ⟨v, rfl, rfl, hB⟩
  refine ⟨_, rfl, ds, [], before, [], before, [], hW', ?_, ?_, ?_, hB.frame _, fun h => by cases h⟩
  · rw [List.append_nil, hs ds (by rw [← hk]; exact (trodAll_length hA).2), hr]
    exact trodAll_mk1 (shut_bool hb true)
  · rw [List.append_nil, hs ds (by rw [← hk]; exact (trodAll_length hA).2)]
    exact trodAll_below hl hB hts hA
  · rw [List.append_nil, hs ds (by rw [← hk]; exact (trodAll_length hA).2), hv]
    rfl

/-! slices of numbers -/

/-- The slice reads as these numbers. -/
structure Ints (k : IntKind) (w : World) (s : Sl) (xs : List Int) : Prop where
  len : s.len = xs.length
  small : s.len ≤ 9223372036854775807
  cell : ∀ (i : Nat) (x : Int), xs[i]? = some x → ∃ p, s.a = some p ∧ p.block < w.heap.size ∧ w.cell? (p.add i) = some (.int k x)

theorem Ints.nil {k : IntKind} {w : World} {a : Option Addr} {c : Nat} : Ints k w ⟨a, 0, c⟩ [] := ⟨rfl, by simp, fun i x h => by simp at h⟩

/-- what was below some block is as it was -/
theorem Ints.below {k : IntKind} {B : Nat} {w w' : World} {s : Sl} {xs : List Int} (h : Ints k w s xs) (hb : Below B w w') (hB : ∀ p, s.a = some p → p.block < B) : Ints k w' s xs := by
  refine ⟨h.len, h.small, fun i x hx => ?_⟩
  obtain ⟨p, hp, hlt, hc⟩ := h.cell i x hx
  refine ⟨p, hp, Nat.lt_of_lt_of_le hlt hb.size, ?_⟩
  rw [hb.cell (by rw [add_block]; exact hB p hp)]
  exact hc

/-- what is read stays while nothing that was there turns -/
theorem Ints.keep {k : IntKind} {w w' : World} {s : Sl} {xs : List Int} (h : Ints k w s xs) (hb : Below w.heap.size w w') : Ints k w' s xs := by
  refine ⟨h.len, h.small, fun i x hx => ?_⟩
  obtain ⟨p, hp, hlt, hc⟩ := h.cell i x hx
  refine ⟨p, hp, Nat.lt_of_lt_of_le hlt hb.size, ?_⟩
  rw [hb.cell (by rw [add_block]; exact hlt)]
  exact hc

/-- the same at every world with the same memory -/
theorem Ints.drew {k : IntKind} {w : World} {s : Sl} {xs : List Int} (h : Ints k w s xs) : Ints k w.drew s xs := ⟨h.len, h.small, h.cell⟩

/-- the i-th -/
theorem Ints.get {k : IntKind} {w : World} {s : Sl} {xs : List Int} (h : Ints k w s xs) {i : Int} (h0 : 0 ≤ i) (h1 : i < s.len) :
    ∃ p, s.a = some p ∧ w.cell? (p.add i.toNat) = some (.int k (xs[i.toNat]?.getD 0)) := by
  have hlt : i.toNat < xs.length := by have := h.len; omega
  obtain ⟨p, hp, _, hc⟩ := h.cell i.toNat _ (List.getElem?_eq_getElem hlt)
  exact ⟨p, hp, by rw [hc, List.getElem?_eq_getElem hlt]; rfl⟩

theorem below_drew {w : World} : Below w.heap.size w w.drew := (Below.refl _ _).drew

/-! memory of the call's own -/

def Sl.val (s : Sl) : Value := .slice s.a s.len s.cap

theorem grown_trans {w w1 w2 : World} {row : Option Nat} (h : w.grownBy w1 row) (h' : w1.grownBy w2 row) : w.grownBy w2 row :=
  ⟨h'.os.trans h.os, h'.tape.trans h.tape, h'.output.trans h.output, Nat.le_trans h.size h'.size, fun k hk hr => (h'.block k (Nat.lt_of_lt_of_le hk h.size) hr).trans (h.block k hk hr)⟩

/-- One element more behind a row of the call's own. -/
theorem append_new {P : Program} {t ty e : TypeId} {i : TypeInfo} {z : Value} {size bytes : Nat} (ht : P.underlying t = some (.slice e)) (hi : P.info? e = some i) (hz : i.zero = some z) (hsize : i.size = size) (hby : i.bytes = bytes)
    (hzs : z.cells.size = size) (hsz : 0 < size) {B : Nat} {w : World} {s : Sl} {n : Nat} {xs : List Value} (h : w.ownsRow B e size (.slice s.a s.len s.cap) n xs) {news : List Value} (hl : news.length = size) (ho : ∀ u ∈ news, u.oneCell' = true)
    (hm : n + 1 ≤ maxLen) (hb : (n + 1) * bytes ≤ 140737488355328) (hB : B ≤ w.heap.size) {cells : Array Value} (hc : cells = news.toArray) :
    ∃ s' : Sl, ∃ w', (builtin .append #[t, t] ty #[] #[.slice s.a s.len s.cap, .slice (some (newA w)) 1 1]).run P (w.alloc (.cells cells e)) = .ok (.value (.slice s'.a s'.len s'.cap)) w' ∧ s'.len = n + 1 ∧
      w'.ownsRow B e size (.slice s'.a s'.len s'.cap) (n + 1) (xs ++ news) ∧ w.grownBy w' (Value.slice s.a s.len s.cap).ownBlock ∧ Below B w w' := by
  subst hc
  have hnews : ∀ j u, news[j]? = some u → (w.alloc (.cells news.toArray e)).cell? ((newA w).add j) = some u := by
    intro j u hj
    have : (newA w).add j = ⟨w.heap.size, j, none⟩ := by unfold Addr.add newA; split <;> simp_all
    rw [this, World.cell?_alloc_new]
    simpa using hj
  obtain ⟨v', w', hr, hown, hg, _⟩ := run_append_own (P := P) (w.alloc (.cells news.toArray e)) B t ty e i z size bytes ht hi hz hsize hby hzs hsz _ n xs (h.alloc _) (newA w) 1 1 news (by simpa using hl) hnews ho hm hb (by simp; omega)
  have hv : ∃ s' : Sl, v' = .slice s'.a s'.len s'.cap ∧ s'.len = n + 1 := by
    rcases hown.2 with ⟨rfl, h0⟩ | ⟨g, cap, cur, rfl, _⟩
    · omega
    · exact ⟨⟨some ⟨g, 0, none⟩, n + 1, cap⟩, rfl, rfl⟩
  obtain ⟨s', rfl, hlen⟩ := hv
  have hg' : w.grownBy w' (Value.slice s.a s.len s.cap).ownBlock := grown_trans (World.grownBy_alloc w _ _) hg
  refine ⟨s', w', by simp [builtin, hr], hlen, hown, hg', ?_⟩
  refine (Below.refl B w).grown hg' hB fun k hk => (h.lt k hk).1

/-- Numbers in a row of the call's own. -/
def OwnI (B : Nat) (e : TypeId) (k : IntKind) (w : World) (s : Sl) (xs : List Int) : Prop := w.ownsRow B e 1 (.slice s.a s.len s.cap) xs.length (xs.map (Value.int k))

theorem OwnI.nil {B : Nat} {e : TypeId} {k : IntKind} {w : World} : OwnI B e k w ⟨none, 0, 0⟩ [] := World.ownsRow_nil _ _ _ _

theorem OwnI.len {B : Nat} {e : TypeId} {k : IntKind} {w : World} {s : Sl} {xs : List Int} (h : OwnI B e k w s xs) : s.len = xs.length := by
  rcases h.2 with ⟨h1, h0⟩ | ⟨g, cap, cur, h1, _⟩
  · cases s; simp only [Value.slice.injEq] at h1; simp only [h1.2.1, h0]
  · cases s; simp only [Value.slice.injEq] at h1; exact h1.2.1

theorem OwnI.ints {B : Nat} {e : TypeId} {k : IntKind} {w : World} {s : Sl} {xs : List Int} (h : OwnI B e k w s xs) (hs : xs.length ≤ 9223372036854775807) : Ints k w s xs := by
  refine ⟨h.len, by rw [h.len]; exact hs, fun i x hx => ?_⟩
  rcases h.2 with ⟨_, h0⟩ | ⟨g, cap, cur, h1, hB, hg, _, _, _, ht⟩
  · rw [List.length_eq_zero_iff.1 h0] at hx; simp at hx
  · have hob : (Value.slice s.a s.len s.cap).ownBlock = some g := by rw [h1]; rfl
    simp only [Value.slice.injEq] at h1
    refine ⟨⟨g, 0, none⟩, h1.1, (Array.getElem?_eq_some_iff.1 hg).1, ?_⟩
    exact World.ownsRow.cells h hob i (.int k x) (by simp [hx])

theorem OwnI.own {B : Nat} {e : TypeId} {k : IntKind} {w : World} {s : Sl} {xs : List Int} (h : OwnI B e k w s xs) : ∀ p, s.a = some p → B ≤ p.block ∧ p.block < w.heap.size := by
  intro p hp
  exact h.lt p.block (by rw [hp]; rfl)

theorem append_int {P : Program} {t ty e : TypeId} {i : TypeInfo} {z : Value} {bytes : Nat} {k : IntKind} (ht : P.underlying t = some (.slice e)) (hi : P.info? e = some i) (hz : i.zero = some z) (hsize : i.size = 1) (hby : i.bytes = bytes) (hzs : z.cells.size = 1)
    {B : Nat} {w : World} {s : Sl} {xs : List Int} (h : OwnI B e k w s xs) {x : Int} (hm : xs.length + 1 ≤ maxLen) (hb : (xs.length + 1) * bytes ≤ 140737488355328) (hB : B ≤ w.heap.size) :
    ∃ s' : Sl, ∃ w', (builtin .append #[t, t] ty #[] #[.slice s.a s.len s.cap, .slice (some (newA w)) 1 1]).run P (w.alloc (.cells #[.int k x] e)) = .ok (.value (.slice s'.a s'.len s'.cap)) w' ∧
      OwnI B e k w' s' (xs ++ [x]) ∧ w.grownBy w' (Value.slice s.a s.len s.cap).ownBlock ∧ Below B w w' := by
  obtain ⟨s', w', hr, _, hown, hg, hb'⟩ := append_new (ty := ty) ht hi hz hsize hby hzs (by omega) h (news := [.int k x]) rfl (by simp [Value.oneCell']) hm hb hB (cells := #[.int k x]) rfl
  refine ⟨s', w', hr, ?_, hg, hb'⟩
  unfold OwnI
  simpa using hown

/-! worlds with the same memory -/

structure Same (w w' : World) : Prop where
  heap : w'.heap = w.heap
  os : w'.os = w.os
  tape : w'.tape = w.tape
  output : w'.output = w.output

theorem Same.refl (w : World) : Same w w := ⟨rfl, rfl, rfl, rfl⟩
theorem Same.of_eq {w w' : World} (h : w = w') : Same w w' := h ▸ Same.refl w
theorem Same.trans {a b c : World} (h : Same a b) (k : Same b c) : Same a c := ⟨k.heap.trans h.heap, k.os.trans h.os, k.tape.trans h.tape, k.output.trans h.output⟩
theorem Same.drew (w : World) : Same w w.drew := ⟨rfl, rfl, rfl, rfl⟩
theorem Same.drew' {a w : World} (h : Same a w) : Same a w.drew := h.trans (Same.drew w)
theorem Same.symm {a b : World} (h : Same a b) : Same b a := ⟨h.heap.symm, h.os.symm, h.tape.symm, h.output.symm⟩
theorem Same.below {w w' : World} (h : Same w w') (B : Nat) : Below B w w' := ⟨h.os, h.tape, h.output, by rw [h.heap]; exact Nat.le_refl _, fun _ _ => by rw [h.heap]⟩
theorem Same.cell {w w' : World} (h : Same w w') (p : Addr) : w'.cell? p = w.cell? p := by unfold World.cell?; rw [h.heap]
theorem Same.size {w w' : World} (h : Same w w') : w'.heap.size = w.heap.size := by rw [h.heap]

theorem Ints.same {k : IntKind} {w w' : World} {s : Sl} {xs : List Int} (h : Ints k w s xs) (hs : Same w w') : Ints k w' s xs :=
  ⟨h.len, h.small, fun i x hx => by obtain ⟨p, hp, hlt, hc⟩ := h.cell i x hx; exact ⟨p, hp, by rw [hs.size]; exact hlt, by rw [hs.cell]; exact hc⟩⟩

theorem Ints.here {k : IntKind} {w : World} {s : Sl} {xs : List Int} (h : Ints k w s xs) {p : Addr} (hp : s.a = some p) (hx : xs ≠ []) : p.block < w.heap.size := by
  cases xs with
  | nil => exact absurd rfl hx
  | cons x xs => obtain ⟨q, hq, hlt, _⟩ := h.cell 0 x rfl; rw [hp] at hq; obtain rfl := Option.some.inj hq; exact hlt

/-- A slice of numbers that came in. -/
theorem ints_of_trod {H : Type} {enc : TypeId × Value → H} {P : Program} {w : World} {base : Nat} {t e : TypeId} {k : IntKind} {v : Value} {d : DataW H} {ps : List MemPlace} {B : Nat} {r : Reach} (ht : P.underlying t = some (.slice e)) (he : P.underlying e = some (.int k)) (hc : P.cellsOf e = 1)
    (hv : Value.okWide P w r B t v) (h : DataW.Trod enc P w base (fun _ => true) true t v d ps) : ∃ (s : Sl) (xs : List Int), v = .slice s.a s.len s.cap ∧ Ints k w s xs ∧ ∀ x ∈ xs, (Lit.int k x).wf = true := by
  obtain ⟨a, len, cap, rfl⟩ := WideShapes.okWide_slice ht hv
  obtain ⟨fuel, hf⟩ := h
  rcases open_ints ht he hc hf with ⟨hcs, _⟩ | ⟨a', len', cap', zs, hcs, _, hl, hm, hz, _, hcell, hwf⟩
  · simp [Value.cells] at hcs
    obtain ⟨rfl, rfl, rfl⟩ := hcs
    exact ⟨⟨none, 0, 0⟩, [], rfl, Ints.nil, by simp⟩
  · simp [Value.cells] at hcs
    obtain ⟨rfl, rfl, rfl⟩ := hcs
    simp only [if_true] at hz
    refine ⟨⟨some a', len, cap⟩, zs.take len, rfl, ⟨by simp; omega, by simp only; unfold maxLen at hm; omega, fun i x hx => ?_⟩, fun x hx => hwf x (List.mem_of_mem_take hx)⟩
    have hi : i < len := by have := (List.getElem?_eq_some_iff.1 hx).1; simp at this; omega
    rw [List.getElem?_take, if_pos hi] at hx
    have hcx := hcell i (by omega)
    have : zs.getD i 0 = x := by simp [List.getD, hx]
    rw [this] at hcx
    refine ⟨a', rfl, ?_, hcx⟩
    have := World.block_lt_of_cell? w _ hcx
    rwa [add_block] at this

/-- All of a slice behind an empty one: memory of the call's own. -/
theorem append_all {P : Program} {t ty e : TypeId} {i : TypeInfo} {z : Value} {bytes : Nat} {k : IntKind} (ht : P.underlying t = some (.slice e)) (hi : P.info? e = some i) (hz : i.zero = some z) (hsize : i.size = 1) (hby : i.bytes = bytes) (hzs : z.cells.size = 1)
    {w : World} {s : Sl} {xs : List Int} (h : Ints k w s xs) (hm : xs.length ≤ maxLen) (hb : xs.length * bytes ≤ 140737488355328) :
    ∃ s' : Sl, ∃ w', (builtin .append #[t, t] ty #[] #[.slice none 0 0, .slice s.a s.len s.cap]).run P w = .ok (.value (.slice s'.a s'.len s'.cap)) w' ∧ OwnI w.heap.size e k w' s' xs ∧ Below w.heap.size w w' := by
  have hlen := h.len
  cases ha : s.a with
  | none =>
    have hx : xs = [] := by
      cases xs with
      | nil => rfl
      | cons x xs => obtain ⟨q, hq, _⟩ := h.cell 0 x rfl; rw [ha] at hq; cases hq
    subst hx
    have h0 : s.len = 0 := by simpa using hlen
    refine ⟨⟨none, 0, 0⟩, w, ?_, OwnI.nil, Below.refl _ _⟩
    simp [builtin, Builtin.append_, run_underlying ht, run_sizeOf' hi, hsize, Builtin.lenOf, Builtin.firstCells, h0]
  | some a =>
    have hnews : ∀ j u, (xs.map (Value.int k))[j]? = some u → w.cell? (a.add j) = some u := by
      intro j u hj
      simp only [List.getElem?_map, Option.map_eq_some_iff] at hj
      obtain ⟨x, hx, rfl⟩ := hj
      obtain ⟨q, hq, _, hc⟩ := h.cell j x hx
      rw [ha] at hq
      obtain rfl := Option.some.inj hq
      exact hc
    obtain ⟨v', w', hr, hown, hg, hn⟩ := run_append_own (P := P) w w.heap.size t ty e i z 1 bytes ht hi hz hsize hby hzs (by omega) _ 0 [] (World.ownsRow_nil _ _ _ _) a s.len s.cap (xs.map (Value.int k)) (by simp [hlen]) hnews
      (by intro u hu; simp at hu; obtain ⟨x, _, rfl⟩ := hu; rfl) (by rw [hlen]; simpa using hm) (by rw [hlen]; simpa using hb) (Nat.le_refl _)
    have hv : ∃ s' : Sl, v' = .slice s'.a s'.len s'.cap := by
      rcases hown.2 with ⟨rfl, h0⟩ | ⟨g, cap, cur, rfl, _⟩
      · exact ⟨⟨none, 0, 0⟩, rfl⟩
      · exact ⟨⟨some ⟨g, 0, none⟩, _, cap⟩, rfl⟩
    obtain ⟨s', rfl⟩ := hv
    refine ⟨s', w', by simp [builtin, hr], ?_, (Below.refl _ w).grown hg (Nat.le_refl _) fun k hk => by simp [Value.ownBlock] at hk⟩
    unfold OwnI
    simpa [hlen] using hown

end Go.Lf

/-
  Slices that are made in any order: what suffices for the region.
-/
namespace Go.Lf
open Go Go.RowKit Go.ChangeShapes
set_option linter.unusedVariables false
variable {P : Program} {n : Nat} {ops : Array Oper} {Q : Exit → Act → World → Prop} {S : World → Prop}

/-- what a make leaves -/
structure MkS where
  by' : Nat
  size : Nat
  z : Value
  e : TypeId

def MkS.run (m : MkS) (x : Int) (w : World) : World := w.alloc (.cells ((Array.range (x.toNat * m.size)).map (m.z.cells[· % m.z.cells.size]!)) m.e)
def MkS.may (m : MkS) (x : Int) : Prop := 0 ≤ x ∧ x ≤ x ∧ (m.by' : Int) * x ≤ 281474976710656 ∧ x ≤ 9223372036854775807

structure MkOp (P : Program) (n : Nat) (ops : Array Oper) (fr : Fr) (x : Int) (i d : Nat) (m : MkS) : Prop where
  has : ∃ o T l c i0, ops[i]? = some o ∧ o.op = .makeSlice T l c ∧ o.guard = none ∧ o.dst = some d ∧ P.underlying T = some (.slice m.e) ∧ P.info? m.e = some i0 ∧ i0.zero = some m.z ∧ i0.bytes = m.by' ∧ i0.size = m.size ∧
    (∃ q, evo fr l = some (.int q x)) ∧ (∃ q, evo fr c = some (.int q x))
  lt : d < n
  new : fget fr d = none

theorem fget_app {fr fr' : Fr} {t : Nat} {v : Value} (h : fget fr t = some v) (hn : fget fr' t = none) : fget (fr' ++ fr) t = some v := by
  induction fr' with
  | nil => exact h
  | cons p r ih =>
    obtain ⟨s, u⟩ := p
    unfold fget at hn
    show cond (Nat.beq s t) (some u) (fget (r ++ fr) t) = some v
    cases hb : Nat.beq s t with
    | true => rw [hb] at hn; cases hn
    | false => rw [hb] at hn; exact ih hn

theorem evo_app {fr fr' : Fr} {y : Operand} {v : Value} (h : evo fr y = some v) (hn : ∀ t, y = .tmp t → fget fr' t = none) : evo (fr' ++ fr) y = some v := by
  cases y with
  | tmp t => exact fget_app h (hn t rfl)
  | const v => exact h
  | global g => exact h
  | func f => exact h

/-- one of them, wherever it comes -/
theorem MkOp.step {fr fr' : Fr} {x : Int} {i d : Nat} {m : MkS} (h : MkOp P n ops fr x i d m) (hfr : ∀ t, fget fr' t ≠ none → fget fr t = none) (hm : m.may x) {a : Act} {w : World} (hs : St n (fr' ++ fr) a) {K : Act → World → Prop}
    (hK : ∀ a', St n ((d, .slice (some (newA w)) x.toNat x.toNat) :: fr' ++ fr) a' → K a' (m.run x w)) : wpOp P ops Q i K a w := by
  obtain ⟨o, T, l, c, i0, ho, hop, hg, hd, hT, hi, hz, hb, hsz, ⟨q1, hl⟩, ⟨q2, hc⟩⟩ := h.has
  unfold wpOp
  rw [ho]
  simp only
  have hw : Region.wanted o (yielded ops a.tmps) = true := by unfold Region.wanted; rw [hg]
  rw [hw, if_pos rfl]
  left
  have ev' : ∀ {y : Operand} {q : IntKind}, evo fr y = some (.int q x) → evo (fr' ++ fr) y = some (.int q x) := by
    intro y q hy
    refine evo_app hy fun t ht => ?_
    subst ht
    cases hh : fget fr' t with
    | none => rfl
    | some v =>
      have := hfr t (by rw [hh]; simp)
      have hy' : fget fr t = some (.int q x) := hy
      rw [this] at hy'; cases hy'
  refine LLoud.wp (n := n) (fr := fr' ++ fr) (K := fun v w' => v = .slice (some (newA w)) x.toNat x.toNat ∧ w' = m.run x w) hs ?_ ?_
  · unfold LLoud
    rw [hop]
    simp only [ev' hl, ev' hc, hT, hi, hz]
    rw [hb, hsz]
    exact ⟨hm.1, hm.2.1, hm.2.2.1, hm.2.2.2, rfl, rfl⟩
  · rintro v w' ⟨rfl, rfl⟩
    rw [hd]
    exact hK _ (hs.put h.lt _)

/-- what is asked: in whatever order they come -/
def MkP (spec : Nat → MkS) (x : Int) (K : (Nat → Addr) → World → Prop) : Nat → List Nat → (Nat → Addr) → World → Prop
  | 0, _, A, w => K A w
  | k + 1, rem, A, w => ∀ i ∈ rem, (spec i).may x ∧ MkP spec x K k (rem.erase i) (fun j => if j = i then newA w else A j) ((spec i).run x w)

def frOf (dst : Nat → Nat) (x : Int) (A : Nat → Addr) (l : List Nat) : Fr := l.map fun i => (dst i, .slice (some (A i)) x.toNat x.toNat)

theorem fget_frOf {dst : Nat → Nat} {x : Int} {A : Nat → Addr} {t : Nat} : ∀ {l : List Nat}, fget (frOf dst x A l) t ≠ none → ∃ i ∈ l, dst i = t
  | [], h => absurd rfl h
  | i :: l, h => by
    unfold frOf fget at h
    simp only [List.map_cons] at h
    cases hb : Nat.beq (dst i) t with
    | true => exact ⟨i, by simp, Nat.eq_of_beq_eq_true hb⟩
    | false =>
      rw [hb] at h
      obtain ⟨j, hj, e⟩ := fget_frOf (l := l) h
      exact ⟨j, by simp [hj], e⟩

theorem mk_any {fr : Fr} {x : Int} {L0 : Array Bool} {all : List Nat} {dst : Nat → Nat} {spec : Nat → MkS} (hop : ∀ i ∈ all, MkOp P n ops fr x i (dst i) (spec i)) (hnd : all.Nodup)
    (hfree : ∀ i ∈ all, L0.getD i true = false) (hrdy : ∀ i ∈ all, ∀ o, ops[i]? = some o → ∀ e ∈ o.after, Region.binds .any e = true → L0.getD e.on false = true)
    (hrest : ∀ j o, ops[j]? = some o → L0.getD j true = false → j ∉ all → (∃ e ∈ o.after, Region.binds .any e = true ∧ e.on ∉ all ∧ L0.getD e.on false = false) ∨ ∀ i ∈ all, ∃ e ∈ o.after, Region.binds .any e = true ∧ e.on = i)
    (hno : ∀ L, needB P ops L = false) {K : (Nat → Addr) → World → Prop} {f : Nat}
    (fin : ∀ (done : List Nat) (A : Nat → Addr) (L : Array Bool) (a : Act) (w : World), done.Perm all → L.size = L0.size → (∀ j b, L.getD j b = if j ∈ all then true else L0.getD j b) → St n (frOf dst x A done ++ fr) a → K A w → wpAnyG P ops Q S f L a w) :
    ∀ (k : Nat) (rem done : List Nat) (A : Nat → Addr) (L : Array Bool) (a : Act) (w : World), rem.length = k → (done ++ rem).Perm all → L.size = L0.size → (∀ j b, L.getD j b = if j ∈ done then true else L0.getD j b) → St n (frOf dst x A done ++ fr) a → MkP spec x K k rem A w → wpAnyG P ops Q S (k + f) L a w
  | 0, rem, done, A, L, a, w, hl, hp, hsz, hL, hs, h => by
    have hr : rem = [] := List.length_eq_zero_iff.1 hl
    subst hr
    rw [List.append_nil] at hp
    rw [Nat.zero_add]
    refine fin done A L a w hp hsz (fun j b => ?_) hs h
    rw [hL j b]
    by_cases hj : j ∈ all
    · rw [if_pos hj, if_pos (hp.mem_iff.2 hj)]
    · rw [if_neg hj, if_neg (fun hd => hj (hp.mem_iff.1 hd))]
  | k + 1, rem, done, A, L, a, w, hl, hp, hsz, hL, hs, h => by
    have hnd2 : (done ++ rem).Nodup := hp.nodup_iff.2 hnd
    have hdr : ∀ i ∈ rem, i ∉ done := fun i hi hd => (List.nodup_append.1 hnd2).2.2 i hd i hi rfl
    have hin : ∀ i ∈ rem, i ∈ all := fun i hi => hp.mem_iff.1 (List.mem_append.2 (.inr hi))
    have hdin : ∀ i ∈ done, i ∈ all := fun i hi => hp.mem_iff.1 (List.mem_append.2 (.inl hi))
    obtain ⟨r, hr⟩ : ∃ r, r ∈ rem := by cases rem with
      | nil => simp at hl
      | cons r t => exact ⟨r, by simp⟩
    have hfF : ∀ i ∈ all, L0.getD i false = false := by
      intro i hi
      have h1 := hfree i hi
      rcases Nat.lt_or_ge i L0.size with h' | h'
      · simp [h'] at h1 ⊢; exact h1
      · simp [Array.getElem?_eq_none h'] at h1
    have e1 : k + 1 + f = (k + f) + 1 := by omega
    rw [e1]
    refine ⟨fun h0 => ?_, fun i hi => ?_⟩
    · exfalso
      have hrr : r ∈ Region.ready .any ops L := by
        obtain ⟨o, _, _, _, _, ho, _⟩ := (hop r (hin r hr)).has
        refine mem_ready.2 ⟨by rw [hL, if_neg (hdr r hr)]; exact hfree r (hin r hr), o, ho, fun e he hb => ?_⟩
        rw [hL]
        split
        · rfl
        · exact hrdy r (hin r hr) o ho e he hb
      rw [h0] at hrr
      cases hrr
    · obtain ⟨hun, o, ho, hall⟩ := mem_ready.1 hi
      rw [hL] at hun
      have hid : i ∉ done := fun hd => by rw [if_pos hd] at hun; cases hun
      rw [if_neg hid] at hun
      have hia : i ∈ all := by
        apply Decidable.byContradiction
        intro hia
        rcases hrest i o ho hun hia with ⟨e, he, hb, hon, hoff⟩ | hdep
        · have h1 := hall e he hb
          rw [hL, if_neg (fun hd => hon (hdin _ hd)), hoff] at h1
          cases h1
        · obtain ⟨e, he, hb, hon⟩ := hdep r (hin r hr)
          have h1 := hall e he hb
          rw [hon, hL, if_neg (hdr r hr), hfF r (hin r hr)] at h1
          cases h1
      have hir : i ∈ rem := by
        rcases List.mem_append.1 (hp.mem_iff.2 hia) with h1 | h1
        · exact absurd h1 hid
        · exact h1
      obtain ⟨hmay, hnext⟩ := h i hir
      have hA : frOf dst x (fun j => if j = i then newA w else A j) done = frOf dst x A done := by
        unfold frOf
        refine List.map_congr_left fun j hj => ?_
        have hne : ¬ j = i := fun e => hid (by rw [← e]; exact hj)
        simp only [if_neg hne]
      refine (hop i hia).step (fr' := frOf dst x A done) (fun t ht => ?_) hmay hs fun a' hs' => ⟨fun hn => ?_, ?_⟩
      · obtain ⟨j, hj, rfl⟩ := fget_frOf ht
        exact (hop j (hdin j hj)).new
      · rw [hno] at hn; cases hn
      · refine mk_any hop hnd hfree hrdy hrest hno fin k (rem.erase i) (i :: done) (fun j => if j = i then newA w else A j) (L.setIfInBounds i true) a' _ ?_ ?_ ?_ (fun j b => ?_) ?_ hnext
        · rw [List.length_erase_of_mem hir]; omega
        · refine List.Perm.trans ?_ hp
          refine (List.perm_middle (l₁ := []) (a := i)).symm.trans ?_
          show (i :: (done ++ rem.erase i)).Perm (done ++ rem)
          exact (List.perm_middle.symm).trans ((List.perm_cons_erase hir).symm.append_left done)
        · simp [hsz]
        · by_cases hji : j = i
          · subst hji
            rw [if_pos (by simp)]
            have hlt : j < L.size := by
              rw [hsz]
              rcases Nat.lt_or_ge j L0.size with h' | h'
              · exact h'
              · have := hfree j hia; simp [Array.getElem?_eq_none h'] at this
            simp [hlt]
          · rw [getD_set_ne b (fun e => hji e.symm), hL]
            simp [hji]
        · show St n ((dst i, Value.slice (some (if i = i then newA w else A i)) x.toNat x.toNat) :: frOf dst x (fun j => if j = i then newA w else A j) done ++ fr) a'
          rw [hA, if_pos rfl]
          exact hs'

/-- operations that only reckon, taken first -/
def LPre (P : Program) (n : Nat) (ops : Array Oper) (K : Array Bool → Fr → Prop) : List Nat → Array Bool → Fr → Prop
  | [], L, fr => K L fr
  | i :: r, L, fr =>
    match ops[i]? with
    | some o => cond (quietB P o.op && Region.free .any ops L i && (Region.ready .any ops L).contains i && o.guard.isNone) (LQuiet P o fr (fun _ _ => False) fun v => putK n o.dst v fr fun fr => LPre P n ops K r (L.setIfInBounds i true) fr) False
    | none => False

theorem LPre.wp {K : Array Bool → Fr → Prop} (hsel : Region.noSelect ops = true) {f : Nat} {w : World} : ∀ (l : List Nat) (L : Array Bool) (fr : Fr) (a : Act), Closed ops L → LPre P n ops K l L fr → St n fr a →
    (∀ L' fr' a', K L' fr' → St n fr' a' → Closed ops L' → wpAnyG P ops (NoPanic Q) (fun _ => True) f L' a' w) → wpAnyG P ops (NoPanic Q) (fun _ => True) (l.length + f) L a w
  | [], L, fr, a, hc, h, hs, hk => by
    rw [List.length_nil, Nat.zero_add]; exact hk L fr a h hs hc
  | i :: r, L, fr, a, hc, h, hs, hk => by
    unfold LPre at h
    split at h
    · rename_i o ho
      obtain ⟨hb, h⟩ := cond_f h
      simp only [Bool.and_eq_true] at hb
      obtain ⟨⟨⟨hq, hfree⟩, hrd⟩, hg⟩ := hb
      have hrd : i ∈ Region.ready .any ops L := by simpa using hrd
      have hw : Region.wanted o (yielded ops a.tmps) = true := by
        unfold Region.wanted
        cases hgu : o.guard with
        | none => rfl
        | some g => rw [hgu] at hg; cases hg
      obtain ⟨v, hv, hrun⟩ := LQuiet.out hs h
      obtain ⟨fr2, hs2, h2⟩ := putK.out hs hv
      rw [show (i :: r).length + f = (r.length + f) + 1 by simp; omega]
      exact wpAnyG_first (S' := fun _ => True) ho hq (Region.noSelect_spec hsel) (fun c a w h => h) (fun _ _ _ _ _ => trivial) _ L a w hc (Region.free_spec ho hfree) hrd (.inl ⟨hw, fun x _ => hrun x fun q u hqu => hqu.elim⟩) (fun _ => trivial)
        (LPre.wp hsel r _ fr2 _ (hc.ready hrd) h2 hs2 hk)
    · exact h.elim

theorem fget_frOf_at {dst : Nat → Nat} {x : Int} {A : Nat → Addr} {fr : Fr} {i : Nat} : ∀ {l : List Nat}, i ∈ l → (∀ j ∈ l, dst j = dst i → j = i) → fget (frOf dst x A l ++ fr) (dst i) = some (.slice (some (A i)) x.toNat x.toNat)
  | [], h, _ => by cases h
  | j :: l, h, hinj => by
    show cond (Nat.beq (dst j) (dst i)) (some _) (fget (frOf dst x A l ++ fr) (dst i)) = _
    cases hb : Nat.beq (dst j) (dst i) with
    | true =>
      have := hinj j (by simp) (Nat.eq_of_beq_eq_true hb)
      subst this; rfl
    | false =>
      have hne : j ≠ i := fun e => by subst e; rw [Nat.beq_refl] at hb; cases hb
      rcases List.mem_cons.1 h with e | h
      · exact absurd e.symm hne
      · exact fget_frOf_at h fun y hy => hinj y (by simp [hy])

theorem fget_frOf_out {dst : Nat → Nat} {x : Int} {A : Nat → Addr} {fr : Fr} {t : Nat} : ∀ {l : List Nat}, (∀ j ∈ l, dst j ≠ t) → fget (frOf dst x A l ++ fr) t = fget fr t
  | [], _ => rfl
  | j :: l, h => by
    show cond (Nat.beq (dst j) t) (some _) (fget (frOf dst x A l ++ fr) t) = _
    cases hb : Nat.beq (dst j) t with
    | true => exact absurd (Nat.eq_of_beq_eq_true hb) (h j (by simp))
    | false => exact fget_frOf_out fun y hy => h y (by simp [hy])

theorem St.perm {dst : Nat → Nat} {x : Int} {A : Nat → Addr} {fr : Fr} {l m : List Nat} {a : Act} (h : St n (frOf dst x A l ++ fr) a) (hp : l.Perm m) (hinj : ∀ i ∈ m, ∀ j ∈ m, dst j = dst i → j = i) : St n (frOf dst x A m ++ fr) a := by
  refine ⟨h.size, h.defers, fun t v hv => h.fits t v ?_⟩
  by_cases ht : ∃ i ∈ m, dst i = t
  · obtain ⟨i, hi, rfl⟩ := ht
    rw [fget_frOf_at hi (hinj i hi)] at hv
    rw [fget_frOf_at (hp.mem_iff.2 hi) fun j hj => hinj i hi j (hp.mem_iff.1 hj)]
    exact hv
  · rw [fget_frOf_out fun j hj e => ht ⟨j, hj, e⟩] at hv
    rw [fget_frOf_out fun j hj e => ht ⟨j, hp.mem_iff.1 hj, e⟩]
    exact hv

theorem closed_none {ops : Array Oper} : Closed ops (Array.replicate ops.size false) := by
  intro j o _ hL
  simp [Array.getElem?_replicate] at hL
  split at hL <;> cases hL

/-- a region whose makes come in any order -/
theorem region_mk {id : Nat} (hm : P.follows .mixedOrders = true) (hsel : Region.noSelect ops = true) (hno : ∀ L, needB P ops L = false) {fr fr1 : Fr} {x : Int} {pre all : List Nat} {L1 L2 : Array Bool} {dst : Nat → Nat} {spec : Nat → MkS} {K : (Nat → Addr) → World → Prop} {Kf : Fr → World → Prop} {f : Nat} {a : Act} {w : World}
    (hsz : ops.size = pre.length + (all.length + f)) (hpre : LPre P n ops (fun L fr' => L = L1 ∧ fr' = fr1) pre (Array.replicate ops.size false) fr)
    (hop : ∀ i ∈ all, MkOp P n ops fr1 x i (dst i) (spec i)) (hnd : all.Nodup) (hinj : ∀ i ∈ all, ∀ j ∈ all, dst j = dst i → j = i)
    (hfree : ∀ i ∈ all, L1.getD i true = false) (hrdy : ∀ i ∈ all, ∀ o, ops[i]? = some o → ∀ e ∈ o.after, Region.binds .any e = true → L1.getD e.on false = true)
    (hrest : ∀ j o, ops[j]? = some o → L1.getD j true = false → j ∉ all → (∃ e ∈ o.after, Region.binds .any e = true ∧ e.on ∉ all ∧ L1.getD e.on false = false) ∨ ∀ i ∈ all, ∃ e ∈ o.after, Region.binds .any e = true ∧ e.on = i)
    (h2 : L2.size = L1.size ∧ ∀ j, j < L1.size → L2.getD j false = (if j ∈ all then true else L1.getD j false)) (hc2 : Closed ops L2)
    (hs : St n fr a) (hmk : MkP spec x K all.length all (fun _ => ⟨0, 0, none⟩) w.drew) (hfin : ∀ A w', K A w' → LAny P n ops (fun _ => True) Kf f L2 (frOf dst x A all ++ fr1) w') (hK : ∀ fr a w, Kf fr w → St n fr a → Q .normal a w) :
    (Code.region id ops true).wp P Q a w := by
  refine wp_region_noPanic (wp_region_any hm (wpAny_of_G (S := fun _ => True) _ _ _ _ ?_))
  rw [hsz]
  have hst : Array.replicate (pre.length + (all.length + f)) false = Array.replicate ops.size false := by rw [hsz]
  rw [hst]
  refine LPre.wp hsel pre _ fr a closed_none hpre hs ?_
  rintro L' fr' a' ⟨rfl, rfl⟩ hs' hc'
  refine mk_any (Q := NoPanic Q) (S := fun _ => True) hop hnd hfree hrdy hrest hno (K := K) (f := f) ?_ all.length all [] (fun _ => ⟨0, 0, none⟩) L' a' _ rfl (by simp) rfl (fun j b => by simp) hs' hmk
  intro done A L a2 w2 hp hLs hL hs2 hk
  have hLe : L = L2 := by
    refine Array.ext (by rw [hLs, h2.1]) fun j hj1 hj2 => ?_
    have e1 := hL j false
    have e2 := h2.2 j (by rw [← h2.1]; exact hj2)
    rw [← e2] at e1
    simpa [hj1, hj2] using e1
  subst hLe
  exact LAny.wp hsel hK _ f L _ a2 w2 hc2 (fun _ => trivial) (hfin A w2 hk) (hs2.perm hp hinj)

/-! the same, by what the kernel reckons -/

def MkTriv (m : MkS) (d : Nat) (x : Int) : Prop :=
  m.e = m.e ∧ some m.z = some m.z ∧ m.by' = m.by' ∧ m.size = m.size ∧ (none : Option (Nat × Bool)) = none ∧ some d = some d ∧ some (Value.int .i64 x) = some (Value.int .i64 x) ∧ some (Value.int .i64 x) = some (Value.int .i64 x) ∧ true = true ∧ (none : Option Value) = none

def MkOk (P : Program) (n : Nat) (ops : Array Oper) (fr : Fr) (x : Int) (i d : Nat) (m : MkS) : Prop :=
  match ops[i]? with
  | some o =>
    match o.op with
    | .makeSlice T l c =>
      match P.underlying T with
      | some (.slice e) =>
        match P.info? e with
        | some i0 => e = m.e ∧ i0.zero = some m.z ∧ i0.bytes = m.by' ∧ i0.size = m.size ∧ o.guard = none ∧ o.dst = some d ∧ evo fr l = some (.int .i64 x) ∧ evo fr c = some (.int .i64 x) ∧ Nat.blt d n = true ∧ fget fr d = none
        | none => False
      | _ => False
    | _ => False
  | none => False

theorem MkOk.op {fr : Fr} {x : Int} {i d : Nat} {m : MkS} (h : MkOk P n ops fr x i d m) : MkOp P n ops fr x i d m := by
  unfold MkOk at h
  split at h
  · rename_i o ho
    split at h
    · rename_i T l c hop
      split at h
      · rename_i e hT
        split at h
        · rename_i i0 hi
          obtain ⟨h1, h2, h3, h4, h5, h6, h7, h8, h9, h10⟩ := h
          subst h1
          exact ⟨⟨o, T, l, c, i0, ho, hop, h5, h6, hT, hi, h2, h3, h4, ⟨_, h7⟩, ⟨_, h8⟩⟩, by simpa [Nat.blt_eq] using h9, h10⟩
        · exact h.elim
      · exact h.elim
    · exact h.elim
  · exact h.elim

theorem AllL.of {F : Nat → Prop} (h : ∀ i, F i) : ∀ l : List Nat, AllL F l
  | [] => trivial
  | [i] => h i
  | i :: j :: r => ⟨h i, AllL.of h (j :: r)⟩

theorem needB_none (h : Nat.beq (loadBits ops.toList 0) 0 = true) (L : Array Bool) : needB P ops L = false := by
  have := Nat.eq_of_beq_eq_true h
  unfold needB
  rw [this]; simp

def rdyB (ops : Array Oper) (L : Array Bool) (all : List Nat) : Bool :=
  all.all fun i => match ops[i]? with
    | some o => o.after.toList.all fun e => !Region.binds .any e || L.getD e.on false
    | none => true
def restB (ops : Array Oper) (L : Array Bool) (all : List Nat) : Bool :=
  (List.range ops.size).all fun j => match ops[j]? with
    | some o => L.getD j true || all.contains j || (o.after.toList.any fun e => Region.binds .any e && !all.contains e.on && !L.getD e.on false) || (all.all fun i => o.after.toList.any fun e => Region.binds .any e && Nat.beq e.on i)
    | none => true
def closedB (ops : Array Oper) (L : Array Bool) : Bool :=
  (List.range ops.size).all fun j => match ops[j]? with
    | some o => !L.getD j false || o.after.toList.all fun e => !Region.binds .any e || L.getD e.on false
    | none => true

theorem regionMk {id : Nat} {fr fr1 : Fr} {x : Int} {pre all : List Nat} {L1 L2 : Array Bool} {dst : Nat → Nat} {spec : Nat → MkS} {K : (Nat → Addr) → World → Prop} {Kf : Fr → World → Prop} {f : Nat} {a : Act} {w : World}
    (hm : P.follows .mixedOrders = true) (hsel : Region.noSelect ops = true) (hno : Nat.beq (loadBits ops.toList 0) 0 = true) (hsz : Nat.beq ops.size (pre.length + (all.length + f)) = true)
    (hpre : (L1 = L1 ∧ fr1 = fr1) = LPre P n ops (fun L fr' => L = L1 ∧ fr' = fr1) pre (Array.replicate ops.size false) fr)
    (hop : AllL (fun i => MkTriv (spec i) (dst i) x) all = AllL (fun i => MkOk P n ops fr1 x i (dst i) (spec i)) all) (hnd : all.Nodup) (hinj : ∀ i ∈ all, ∀ j ∈ all, dst j = dst i → j = i)
    (hfree : ∀ i ∈ all, L1.getD i true = false) (hrdy : rdyB ops L1 all = true) (hrest : restB ops L1 all = true)
    (h2 : L2.size = L1.size ∧ ∀ j, j < L1.size → L2.getD j false = (if j ∈ all then true else L1.getD j false)) (hc2 : closedB ops L2 = true)
    (hs : St n fr a) (hmk : MkP spec x K all.length all (fun _ => ⟨0, 0, none⟩) w.drew) (hfin : ∀ A w', K A w' → LAny P n ops (fun _ => True) Kf f L2 (frOf dst x A all ++ fr1) w') (hK : ∀ fr a w, Kf fr w → St n fr a → Q .normal a w) :
    (Code.region id ops true).wp P Q a w := by
  refine region_mk (pre := pre) (L1 := L1) (L2 := L2) (dst := dst) (spec := spec) (f := f) hm hsel (needB_none hno) (Nat.eq_of_beq_eq_true hsz) (kcast hpre ⟨rfl, rfl⟩) (fun i hi => ?_) hnd hinj hfree ?_ ?_ h2 ?_ hs hmk hfin hK
  · have h1 : AllL (fun i => MkTriv (spec i) (dst i) x) all := AllL.of (fun i => ⟨rfl, rfl, rfl, rfl, rfl, rfl, rfl, rfl, rfl, rfl⟩) _
    rw [hop] at h1
    exact (h1.mem i hi).op
  · intro i hi o ho e he hb
    have h1 := List.all_eq_true.1 hrdy i hi
    rw [ho] at h1
    simp only at h1
    have h2 := List.all_eq_true.1 h1 e (by simpa using he)
    rw [hb] at h2
    simpa using h2
  · intro j o ho hL hj
    have hlt : j < ops.size := (Array.getElem?_eq_some_iff.1 ho).1
    have h1 := List.all_eq_true.1 hrest j (List.mem_range.2 hlt)
    rw [ho] at h1
    simp only at h1
    rw [hL] at h1
    have hj' : all.contains j = false := by simpa using hj
    rw [hj'] at h1
    simp only [Bool.false_or, Bool.or_eq_true] at h1
    rcases h1 with h1 | h1
    · left
      obtain ⟨e, he, h3⟩ := List.any_eq_true.1 h1
      simp only [Bool.and_eq_true, Bool.not_eq_true'] at h3
      exact ⟨e, by simpa using he, h3.1.1, by simpa using h3.1.2, h3.2⟩
    · right
      intro i hi
      have h3 := List.all_eq_true.1 h1 i hi
      obtain ⟨e, he, h4⟩ := List.any_eq_true.1 h3
      simp only [Bool.and_eq_true] at h4
      exact ⟨e, by simpa using he, h4.1, Nat.eq_of_beq_eq_true h4.2⟩
  · intro j o ho hL e he hb
    have hlt : j < ops.size := (Array.getElem?_eq_some_iff.1 ho).1
    have h1 := List.all_eq_true.1 hc2 j (List.mem_range.2 hlt)
    rw [ho] at h1
    simp only at h1
    rw [hL] at h1
    simp only [Bool.not_true, Bool.false_or] at h1
    have h3 := List.all_eq_true.1 h1 e (by simpa using he)
    rw [hb] at h3
    simpa using h3

theorem primDef {J : Nat → Fr → World → Prop} {k : Nat} {c : Code} {Qs : Exit → Fr → World → Prop} (l : Vars) (F : Tys l → World → Prop) (hJ : ∀ fr w, J k fr w = dec l fr fun x => F x w)
    (hw : ∀ x Q, Serves n Qs Q → ∀ a w, F x w → St n (mkF l x) a → c.wp P Q a w) : ∀ Q, Serves n Qs Q → ∀ fr a w, J k fr w → St n fr a → c.wp P Q a w := by
  intro Q hQ fr a w h hs
  rw [hJ] at h
  obtain ⟨x, hs', hx⟩ := dec.out hs h
  exact hw x Q hQ a w hx hs'

end Go.Lf

/-
  Memory, more: boxes of the call's own; slices whose elements are wider than a cell, read by a relation of their own; how such slices come in.
-/
namespace Go.Lf
open Go Go.RowKit Go.ChangeShapes

/-! boxes -/

theorem newA_add (w : World) (j : Nat) : (newA w).add j = ⟨w.heap.size, j, none⟩ := by
  unfold Addr.add newA; split <;> simp_all

theorem newA_block (w : World) : (newA w).block = w.heap.size := rfl

theorem size_alloc (w : World) (o : Obj) : (w.alloc o).heap.size = w.heap.size + 1 := Array.size_push _

theorem cell_new (w : World) (cs : Array Value) (T : TypeId) (j : Nat) : (w.alloc (.cells cs T)).cell? ((newA w).add j) = cs[j]? := by
  rw [newA_add]; exact World.cell?_alloc_new ..

theorem cell_new0 (w : World) (cs : Array Value) (T : TypeId) : (w.alloc (.cells cs T)).cell? (newA w) = cs[0]? := by
  have := cell_new w cs T 0
  rwa [add_zero] at this

theorem setCell_alloc (w : World) (cs : List Value) (T : TypeId) (j : Nat) (v : Value) : (w.alloc (.cells cs.toArray T)).setCell ((newA w).add j) v = w.alloc (.cells (cs.set j v).toArray T) := by
  rw [newA_add]
  unfold World.setCell World.alloc
  simp only
  congr 1
  apply Array.ext
  · simp
  · intro i h1 h2
    simp only [Array.getElem_modify, Array.getElem_push]
    split
    · rename_i h
      subst h
      simp
    · rename_i hne
      have : i < w.heap.size := by simp at h2; omega
      rw [dif_pos this, dif_pos this]

theorem setCells_alloc (w : World) (T : TypeId) : ∀ (vs a b : List Value), b.length = vs.length → setCells (newA w) vs a.length (w.alloc (.cells (a ++ b).toArray T)) = w.alloc (.cells (a ++ vs).toArray T)
  | [], a, b, h => by
    have : b = [] := by simpa using h
    subst this; rfl
  | v :: r, a, b, h => by
    cases b with
    | nil => simp at h
    | cons u b =>
      unfold setCells
      rw [setCell_alloc]
      have := setCells_alloc w T r (a ++ [v]) b (by simpa using h)
      simp only [List.length_append, List.length_cons, List.length_nil, List.append_assoc, List.cons_append, List.nil_append] at this
      rw [← this]
      simp

theorem box_set {w : World} {T : TypeId} {zs cs : List Value} (h : zs.length = cs.length) : setCells (newA w) cs 0 (w.alloc (.cells zs.toArray T)) = w.alloc (.cells cs.toArray T) :=
  setCells_alloc w T cs [] zs h

theorem box_set2 {w : World} {T : TypeId} {a b x y : Value} : setCells (newA w) [a, b] 0 (w.alloc (.cells #[x, y] T)) = w.alloc (.cells #[a, b] T) := box_set (zs := [x, y]) rfl
theorem box_set3 {w : World} {T : TypeId} {a b c x y z : Value} : setCells (newA w) [a, b, c] 0 (w.alloc (.cells #[x, y, z] T)) = w.alloc (.cells #[a, b, c] T) := box_set (zs := [x, y, z]) rfl
theorem box_set1' {w : World} {T : TypeId} {a x : Value} : (w.alloc (.cells #[x] T)).setCell (newA w) a = w.alloc (.cells #[a] T) := by
  have := setCell_alloc w [x] T 0 a
  rwa [add_zero] at this

theorem wr_new (w : World) (cs : Array Value) (T : TypeId) {j : Nat} (h : j < cs.size) : Wr (w.alloc (.cells cs T)) ((newA w).add j) := by
  refine ⟨⟨cs[j], by rw [cell_new, Array.getElem?_eq_getElem h]⟩, ?_⟩
  rw [newA_add]; exact World.frozen?_alloc_at _ _ _ _ rfl
theorem wr_new0 (w : World) (cs : Array Value) (T : TypeId) (h : 0 < cs.size) : Wr (w.alloc (.cells cs T)) (newA w) := by
  have := wr_new w cs T h
  rwa [add_zero] at this

/-- what can be written stays so -/
theorem Wr.below {B : Nat} {w w' : World} {a : Addr} (h : Wr w a) (hb : Below B w w') (hB : a.block < B) : Wr w' a := by
  obtain ⟨⟨v, h1⟩, h2⟩ := h
  exact ⟨⟨v, by rw [hb.cell hB]; exact h1⟩, by rw [hb.frozen hB]; exact h2⟩

theorem below_alloc (w : World) (o : Obj) : Below w.heap.size w (w.alloc o) := (Below.refl _ _).alloc (Nat.le_refl _) o

/-- a call behind a call -/
theorem _root_.Go.RowKit.Below.next {a b c : World} {B : Nat} (h : Below B a b) (k : Below b.heap.size b c) (hB : B ≤ a.heap.size) : Below B a c :=
  h.trans (k.mono (Nat.le_trans hB h.size))
theorem _root_.Go.RowKit.Below.then {a b c : World} (h : Below a.heap.size a b) (k : Below b.heap.size b c) : Below a.heap.size a c := h.next k (Nat.le_refl _)

theorem below_setCells {B : Nat} {a : World} {p : Addr} (hp : B ≤ p.block) : ∀ (vs : List Value) (i : Nat) {w : World}, Below B a w → Below B a (setCells p vs i w)
  | [], _, _, h => h
  | v :: r, i, w, h => below_setCells hp r (i + 1) (h.setCell (by rw [add_block]; exact hp) v)

theorem cell_alloc_old {w : World} {p : Addr} {v : Value} {o : Obj} (h : w.cell? p = some v) : (w.alloc o).cell? p = some v := by
  rw [(below_alloc w o).cell (World.block_lt_of_cell? w p h)]; exact h

/-- a cell of the world before -/
theorem _root_.Go.RowKit.Below.cellv {B : Nat} {w w' : World} (h : Below B w w') {p : Addr} {v : Value} (hc : w.cell? p = some v) (hp : p.block < B) : w'.cell? p = some v := by rw [h.cell hp]; exact hc
theorem _root_.Go.RowKit.Below.here {w w' : World} (h : Below w.heap.size w w') {p : Addr} {v : Value} (hc : w.cell? p = some v) : w'.cell? p = some v := h.cellv hc (World.block_lt_of_cell? w p hc)

theorem add_off (q : Addr) (i : Nat) : (q.add i).off = q.off + i := by unfold Addr.add; split <;> simp_all
theorem add_inj {q : Addr} {i j : Nat} (h : q.add i = q.add j) : i = j := by
  have := congrArg Addr.off h
  rw [add_off, add_off] at this
  omega

/-- what was stored is there -/
theorem cell_setCells_out (q : Addr) : ∀ (vs : List Value) (i : Nat) (w : World) (p : Addr), (∀ j, j < vs.length → q.add (i + j) ≠ p) → (setCells q vs i w).cell? p = w.cell? p
  | [], _, _, _, _ => rfl
  | v :: r, i, w, p, h => by
    unfold setCells
    rw [cell_setCells_out q r (i + 1) _ p fun j hj => by have := h (j + 1) (by simpa using hj); rwa [show i + (j + 1) = i + 1 + j by omega] at this]
    exact World.cell?_setCell_other _ _ _ _ (by have := h 0 (by simp); simpa using this)

theorem cell_setCells (q : Addr) : ∀ (vs : List Value) (i : Nat) (w : World), (∀ j, j < vs.length → ∃ old, w.cell? (q.add (i + j)) = some old) → ∀ (j : Nat) (u : Value), vs[j]? = some u → (setCells q vs i w).cell? (q.add (i + j)) = some u
  | [], _, _, _, j, u, hu => by simp at hu
  | v :: r, i, w, h, j, u, hu => by
    unfold setCells
    cases j with
    | zero =>
      simp at hu
      subst hu
      rw [cell_setCells_out q r (i + 1) _ _ fun j _ he => by have := add_inj he; omega]
      obtain ⟨old, ho⟩ := h 0 (by simp)
      simp only [Nat.add_zero] at ho ⊢
      exact World.cell?_setCell_same _ _ _ ho
    | succ j =>
      rw [show i + (j + 1) = i + 1 + j by omega]
      refine cell_setCells q r (i + 1) _ (fun k hk => ?_) j u (by simpa using hu)
      obtain ⟨old, ho⟩ := h (k + 1) (by simpa using hk)
      rw [show i + (k + 1) = i + 1 + k by omega] at ho
      exact setCell_some ho

theorem cells3 {w : World} (q : Addr) (hw : ∀ j, j < 3 → Wr w (q.add j)) (a b c : Value) :
    (setCells q [a, b, c] 0 w).cell? q = some a ∧ (setCells q [a, b, c] 0 w).cell? (q.add 1) = some b ∧ (setCells q [a, b, c] 0 w).cell? (q.add 2) = some c := by
  have h := cell_setCells q [a, b, c] 0 w fun j hj => by rw [Nat.zero_add]; exact (hw j hj).1
  have h0 := h 0 a rfl
  rw [Nat.zero_add, add_zero] at h0
  exact ⟨h0, by have := h 1 b rfl; rwa [Nat.zero_add] at this, by have := h 2 c rfl; rwa [Nat.zero_add] at this⟩

/-! writing in a row of the call's own -/

theorem own_form {B : Nat} {e : TypeId} {size : Nat} {w : World} {s : Sl} {n : Nat} {vs : List Value} (h : w.ownsRow B e size (.slice s.a s.len s.cap) n vs) {p : Addr} (hp : s.a = some p) : p = ⟨p.block, 0, none⟩ ∧ s.len = n ∧ B ≤ p.block ∧ p.block < w.heap.size := by
  have hlt := h.lt p.block (by rw [hp]; rfl)
  rcases h.2 with ⟨h', _⟩ | ⟨g, cap, cur, h', _⟩
  · simp only [Value.slice.injEq] at h'; rw [hp] at h'; simp at h'
  · simp only [Value.slice.injEq] at h'
    rw [hp] at h'
    obtain ⟨h1, h2, _⟩ := h'
    obtain rfl := Option.some.inj h1
    exact ⟨rfl, h2, hlt⟩

theorem own_set {B : Nat} {e : TypeId} {size : Nat} {w : World} {s : Sl} {n : Nat} {vs : List Value} (h : w.ownsRow B e size (.slice s.a s.len s.cap) n vs) {p : Addr} (hp : s.a = some p) {j : Nat} (hj : j < vs.length) (u : Value) :
    Wr w (p.add j) ∧ (w.setCell (p.add j) u).ownsRow B e size (.slice s.a s.len s.cap) n (vs.set j u) := by
  obtain ⟨he, hl, _, _⟩ := own_form h hp
  have hpj : p.add j = ⟨p.block, j, none⟩ := by
    have : p.add j = (⟨p.block, 0, none⟩ : Addr).add j := by rw [← he]
    rw [this]
    unfold Addr.add
    split
    · rename_i h0; rw [h0]
    · simp
  rw [hp, hl, he] at h ⊢
  have hjn : j < n * size := by rw [← h.1]; exact hj
  have := h.cellAt j hjn
  rw [List.getElem?_eq_getElem hj] at this
  rw [he] at hpj
  rw [hpj]
  exact ⟨⟨⟨_, this⟩, h.frozenAt j⟩, (h.stored j u).1⟩

theorem OwnI.set {B : Nat} {e : TypeId} {k : IntKind} {w : World} {s : Sl} {xs : List Int} (h : OwnI B e k w s xs) {p : Addr} (hp : s.a = some p) {j : Nat} (hj : j < xs.length) (x : Int) :
    Wr w (p.add j) ∧ OwnI B e k (w.setCell (p.add j) (.int k x)) s (xs.set j x) ∧ B ≤ p.block := by
  obtain ⟨h1, h2⟩ := own_set h hp (j := j) (by simpa using hj) (.int k x)
  refine ⟨h1, ?_, (own_form h hp).2.2.1⟩
  unfold OwnI
  rw [List.map_set, List.length_set]
  exact h2

/-! slices with wide elements: 'E' tells what an element's cells hold -/

structure Els {α : Type} (n : Nat) (E : World → List Value → α → Prop) (w : World) (s : Sl) (xs : List α) : Prop where
  len : s.len = xs.length
  small : s.len ≤ 9223372036854775807
  el : ∀ (i : Nat) (x : α), xs[i]? = some x → ∃ p cs, s.a = some p ∧ p.block < w.heap.size ∧ (∀ (j : Nat) (u : Value), cs[j]? = some u → w.cell? (p.add (i * n + j)) = some u) ∧ E w cs x

/-- it stays while what was there stays -/
def Stab {α : Type} (E : World → List Value → α → Prop) : Prop := ∀ (w w' : World) (cs : List Value) (x : α), Below w.heap.size w w' → E w cs x → E w' cs x

theorem Els.nil {α : Type} {n : Nat} {E : World → List Value → α → Prop} {w : World} {a : Option Addr} {c : Nat} : Els n E w ⟨a, 0, c⟩ [] := ⟨rfl, by simp, fun i x h => by simp at h⟩

theorem Els.keep {α : Type} {n : Nat} {E : World → List Value → α → Prop} (hE : Stab E) {w w' : World} {s : Sl} {xs : List α} (h : Els n E w s xs) (hb : Below w.heap.size w w') : Els n E w' s xs := by
  refine ⟨h.len, h.small, fun i x hx => ?_⟩
  obtain ⟨p, cs, hp, hlt, hc, he⟩ := h.el i x hx
  exact ⟨p, cs, hp, Nat.lt_of_lt_of_le hlt hb.size, fun j u hu => by rw [hb.cell (by rw [add_block]; exact hlt)]; exact hc j u hu, hE _ _ _ _ hb he⟩

/-- the i-th -/
theorem Els.get {α : Type} {n : Nat} {E : World → List Value → α → Prop} {w : World} {s : Sl} {xs : List α} (h : Els n E w s xs) {i : Int} (h0 : 0 ≤ i) (h1 : i < s.len) :
    ∃ p x cs, s.a = some p ∧ p.block < w.heap.size ∧ xs[i.toNat]? = some x ∧ (∀ (j : Nat) (u : Value), cs[j]? = some u → w.cell? ((p.add (i.toNat * n)).add j) = some u) ∧ E w cs x := by
  have hlt : i.toNat < xs.length := by have := h.len; omega
  obtain ⟨p, cs, hp, hb, hc, he⟩ := h.el i.toNat _ (List.getElem?_eq_getElem hlt)
  exact ⟨p, _, cs, hp, hb, List.getElem?_eq_getElem hlt, fun j u hu => by rw [add_add]; exact hc j u hu, he⟩

/-- a slice in a cell -/
def SliceC {α : Type} (n : Nat) (E : World → List Value → α → Prop) (w : World) (cs : List Value) (xs : List α) : Prop := ∃ s : Sl, cs = [.slice s.a s.len s.cap] ∧ Els n E w s xs
theorem SliceC.stab {α : Type} {n : Nat} {E : World → List Value → α → Prop} (hE : Stab E) : Stab (SliceC n E) := fun _ _ _ _ hb ⟨s, hs, h⟩ => ⟨s, hs, h.keep hE hb⟩

def IntC (k : IntKind) (_ : World) (cs : List Value) (x : Int) : Prop := cs = [.int k x] ∧ (Lit.int k x).wf = true
theorem IntC.stab {k : IntKind} : Stab (IntC k) := fun _ _ _ _ _ h => h
def BoolC (_ : World) (cs : List Value) (x : Bool) : Prop := cs = [.bool x]
theorem BoolC.stab : Stab BoolC := fun _ _ _ _ _ h => h

def IntsC (k : IntKind) (w : World) (cs : List Value) (xs : List Int) : Prop := ∃ s : Sl, cs = [.slice s.a s.len s.cap] ∧ Ints k w s xs
theorem IntsC.stab {k : IntKind} : Stab (IntsC k) := fun _ _ _ _ hb ⟨s, hs, h⟩ => ⟨s, hs, h.keep hb⟩

/-! how they come in -/

/-- what is read of this type is told by E -/
structure Reads (P : Program) (T : TypeId) {α : Type} (E : World → List Value → α → Prop) : Prop where
  go : ∀ {H : Type} {enc : TypeId × Value → H} {w : World} {base : Nat} {spare : Nat → Bool} {held : Bool} {fuel : Nat} {cs : List Value} {x : DataW H × List MemPlace}, DataW.trod enc P w base spare held fuel T cs = some x → ∃ a, E w cs a

theorem Reads.mono {P : Program} {T : TypeId} {α β : Type} {E : World → List Value → α → Prop} {F : World → List Value → β → Prop} (h : Reads P T E) (g : ∀ w cs a, E w cs a → ∃ b, F w cs b) : Reads P T F :=
  ⟨fun hx => by obtain ⟨a, ha⟩ := h.go hx; exact g _ _ _ ha⟩

theorem reads_int {P : Program} {T : TypeId} {k : IntKind} (ht : P.underlying T = some (.int k)) : Reads P T (IntC k) := by
  constructor
  intro H enc w base spare held fuel cs x h
  obtain ⟨m, rfl, rfl, hw⟩ := DataW.trod_int ht h
  exact ⟨m, rfl, hw⟩

theorem reads_bool {P : Program} {T : TypeId} (ht : P.underlying T = some .bool) : Reads P T BoolC := by
  constructor
  intro H enc w base spare held fuel cs x h
  cases fuel with
  | zero => simp [DataW.trod] at h
  | succ n =>
    rw [DataW.trod_step] at h
    unfold DataW.trodStep at h
    rw [ht] at h
    split at h <;> simp_all [BoolC]

theorem mapM_getElem {α β : Type} {f : α → Option β} : ∀ {l : List α} {r : List β}, l.mapM f = some r → ∀ (j : Nat) (x : α), l[j]? = some x → ∃ y, r[j]? = some y ∧ f x = some y := by
  intro l
  induction l with
  | nil => intro r h j x hx; simp at hx
  | cons z zs ih =>
    intro r h j x hx
    rw [List.mapM_cons] at h
    cases hz : f z with
    | none => simp [hz] at h
    | some y =>
      cases hzs : zs.mapM f with
      | none => simp [hz, hzs] at h
      | some ys =>
        simp [hz, hzs] at h
        subst h
        cases j with
        | zero => simp at hx; subst hx; exact ⟨y, by simp, hz⟩
        | succ j => simp at hx ⊢; exact ih hzs j x hx

theorem cells_at {w : World} {base : Nat} {a : Addr} {n : Nat} {cs : List Value} (h : w.cells? base a n = some cs) : cs.length = n ∧ ∀ (j : Nat) (u : Value), cs[j]? = some u → w.cell? (a.add j) = some u := by
  unfold World.cells? at h
  split at h
  · have hl : cs.length = n := by have := mapM_some_length h; simpa using this
    refine ⟨hl, fun j u hu => ?_⟩
    have hj : j < n := by rw [← hl]; exact (List.getElem?_eq_some_iff.1 hu).1
    obtain ⟨y, hy, hc⟩ := mapM_getElem h j j (by simp [hj])
    rw [hu] at hy
    cases hy
    exact hc
  · cases h

theorem reads_slice {P : Program} {T e : TypeId} {n : Nat} {α : Type} {E : World → List Value → α → Prop} (ht : P.underlying T = some (.slice e)) (hc : P.cellsOf e = n) (hn : 0 < n) (he : Reads P e E) (hlen : ∀ w cs a, E w cs a → cs.length = n) : Reads P T (SliceC n E) := by
  subst hc
  constructor
  intro H enc w base spare held fuel cs x h
  rcases Go.Deep.open_slice ht h with ⟨rfl, _⟩ | ⟨a, len, cap, m, f, D, Pl, rfl, _, hl, hm, hmm, _, hel⟩
  · exact ⟨[], ⟨none, 0, 0⟩, rfl, Els.nil⟩
  have hlm : len ≤ m := by rw [hmm]; split <;> omega
  have each : ∀ i, i < len → ∃ x cs', (∀ (j : Nat) (u : Value), cs'[j]? = some u → w.cell? (a.add (i * P.cellsOf e + j)) = some u) ∧ E w cs' x := by
    intro i hi
    obtain ⟨cs', h1, h2⟩ := hel i (by omega)
    obtain ⟨x, hx⟩ := he.go h2
    obtain ⟨_, h3⟩ := cells_at h1
    exact ⟨x, cs', fun j u hu => by rw [← add_add]; exact h3 j u hu, hx⟩
  have all : ∀ k, k ≤ len → ∃ xs : List α, xs.length = k ∧ ∀ (i : Nat) (x : α), xs[i]? = some x → ∃ cs', (∀ (j : Nat) (u : Value), cs'[j]? = some u → w.cell? (a.add (i * P.cellsOf e + j)) = some u) ∧ E w cs' x := by
    intro k
    induction k with
    | zero => intro _; exact ⟨[], rfl, fun i x h => by simp at h⟩
    | succ k ih =>
      intro hk
      obtain ⟨xs, hx, h⟩ := ih (by omega)
      obtain ⟨y, cs', h1, h2⟩ := each k (by omega)
      refine ⟨xs ++ [y], by simp [hx], fun i x hi => ?_⟩
      by_cases hlt : i < xs.length
      · rw [List.getElem?_append_left hlt] at hi; exact h i x hi
      · rw [List.getElem?_append_right (by omega)] at hi
        have h0 : i - xs.length = 0 := by
          have := (List.getElem?_eq_some_iff.1 hi).1; simp at this; omega
        rw [h0] at hi
        simp at hi
        subst hi
        exact ⟨cs', by rw [show i = k by omega]; exact h1, h2⟩
  obtain ⟨xs, hx, h⟩ := all len (Nat.le_refl _)
  refine ⟨xs, ⟨some a, len, cap⟩, rfl, hx.symm, by simp only; unfold maxLen at hm; omega, fun i x hi => ?_⟩
  obtain ⟨cs', h1, h2⟩ := h i x hi
  refine ⟨a, cs', rfl, ?_, h1, h2⟩
  have hl2 := hlen _ _ _ h2
  have hz : cs'[0]? = some cs'[0] := List.getElem?_eq_getElem (by omega)
  have := World.block_lt_of_cell? w _ (h1 0 _ hz)
  rwa [add_block] at this

/-- a struct: each field by its reader -/
theorem struct_fields {P : Program} {T : TypeId} {fs : Array Field} (ht : P.underlying T = some (.struct fs)) {H : Type} {enc : TypeId × Value → H} {w : World} {base : Nat} {spare : Nat → Bool} {held : Bool} {fuel : Nat} {cs : List Value} {x : DataW H × List MemPlace}
    (h : DataW.trod enc P w base spare held fuel T cs = some x) : cs.length = P.cellsOf T ∧ ∃ n, ∀ f ∈ fs.toList, ∃ y, DataW.trod enc P w base spare held n f.type ((cs.drop f.offset).take (P.cellsOf f.type)) = some y := by
  cases fuel with
  | zero => simp [DataW.trod] at h
  | succ n =>
    rw [DataW.trod_step] at h
    unfold DataW.trodStep at h
    rw [ht] at h
    simp only at h
    split at h
    · rename_i hl
      refine ⟨hl, n, fun f hf => ?_⟩
      simp only [Option.map_eq_some_iff] at h
      obtain ⟨xs, hxs, _⟩ := h
      obtain ⟨j, hj⟩ := List.mem_iff_getElem?.1 hf
      obtain ⟨y, _, hy⟩ := mapM_getElem hxs j f hj
      exact ⟨y, hy⟩
    · cases h

/-- an array: each element by its reader -/
theorem array_elems {P : Program} {T e : TypeId} {n : Nat} (ht : P.underlying T = some (.array n e)) {H : Type} {enc : TypeId × Value → H} {w : World} {base : Nat} {spare : Nat → Bool} {held : Bool} {fuel : Nat} {cs : List Value} {x : DataW H × List MemPlace}
    (h : DataW.trod enc P w base spare held fuel T cs = some x) : cs.length = P.cellsOf T ∧ ∃ m, ∀ i, i < n → ∃ y, DataW.trod enc P w base spare held m e ((cs.drop (i * P.cellsOf e)).take (P.cellsOf e)) = some y := by
  cases fuel with
  | zero => simp [DataW.trod] at h
  | succ m =>
    rw [DataW.trod_step] at h
    unfold DataW.trodStep at h
    rw [ht] at h
    simp only at h
    split at h
    · rename_i hl
      refine ⟨hl, m, fun i hi => ?_⟩
      simp only [Option.map_eq_some_iff] at h
      obtain ⟨xs, hxs, _⟩ := h
      obtain ⟨y, _, hy⟩ := mapM_getElem hxs i i (by simp [hi])
      exact ⟨y, hy⟩
    · cases h

theorem reads_ints {P : Program} {T e : TypeId} {k : IntKind} (ht : P.underlying T = some (.slice e)) (he : P.underlying e = some (.int k)) (hc : P.cellsOf e = 1) : Reads P T (IntsC k) := by
  refine (reads_slice ht hc (by omega) (reads_int he) fun w cs a h => by rw [h.1]; rfl).mono ?_
  rintro w cs xs ⟨s, rfl, h⟩
  refine ⟨xs, s, rfl, h.len, h.small, fun i x hx => ?_⟩
  obtain ⟨p, cs', hp, hlt, hcc, rfl, _⟩ := h.el i x hx
  exact ⟨p, hp, hlt, by have := hcc 0 _ rfl; simpa using this⟩

/-- a value that came in, by its reader -/
theorem Reads.open {P : Program} {T : TypeId} {α : Type} {E : World → List Value → α → Prop} (hr : Reads P T E) {H : Type} {enc : TypeId × Value → H} {w : World} {base : Nat} {sp : Nat → Bool} {held : Bool} {v : Value} {d : DataW H} {ps : List MemPlace}
    (h : DataW.Trod enc P w base sp held T v d ps) : ∃ a, E w v.cells.toList a := by
  obtain ⟨fuel, h⟩ := h
  exact hr.go h

end Go.Lf

/-
  What may change: 'Chg F': all blocks but those of F are as they were. 'G': the blocks that some structure may change; what never changes lies outside of G.
-/
namespace Go.Lf
open Go Go.RowKit Go.ChangeShapes

structure Chg (F : Nat → Prop) (w w' : World) : Prop where
  os : w'.os = w.os
  tape : w'.tape = w.tape
  output : w'.output = w.output
  size : w.heap.size ≤ w'.heap.size
  block : ∀ k, k < w.heap.size → ¬ F k → w'.heap[k]? = w.heap[k]?

theorem Chg.refl (F : Nat → Prop) (w : World) : Chg F w w := ⟨rfl, rfl, rfl, Nat.le_refl _, fun _ _ _ => rfl⟩

theorem Chg.trans {F F' : Nat → Prop} {a b c : World} (h : Chg F a b) (k : Chg F' b c) (hF : ∀ i, F' i → F i ∨ a.heap.size ≤ i) : Chg F a c :=
  ⟨k.os.trans h.os, k.tape.trans h.tape, k.output.trans h.output, Nat.le_trans h.size k.size,
    fun i hi hn => (k.block i (Nat.lt_of_lt_of_le hi h.size) fun hf => (hF i hf).elim hn (Nat.not_le.2 hi)).trans (h.block i hi hn)⟩

theorem Chg.mono {F F' : Nat → Prop} {w w' : World} (h : Chg F w w') (hF : ∀ i, i < w.heap.size → F i → F' i) : Chg F' w w' :=
  ⟨h.os, h.tape, h.output, h.size, fun i hi hn => h.block i hi fun hf => hn (hF i hi hf)⟩

theorem Chg.below {B : Nat} {F : Nat → Prop} {w w' : World} (h : Chg F w w') (hF : ∀ i, F i → B ≤ i) (hB : B ≤ w.heap.size) : Below B w w' :=
  ⟨h.os, h.tape, h.output, h.size, fun i hi => h.block i (by omega) fun hf => by have := hF i hf; omega⟩

theorem Chg.of_below {F : Nat → Prop} {w w' : World} (h : Below w.heap.size w w') : Chg F w w' := ⟨h.os, h.tape, h.output, h.size, fun i hi _ => h.block i hi⟩

theorem Chg.of_grown {F : Nat → Prop} {w w' : World} {row : Option Nat} (h : w.grownBy w' row) (hr : ∀ k, row = some k → F k) : Chg F w w' :=
  ⟨h.os, h.tape, h.output, h.size, fun i hi hn => h.block i hi fun he => hn (hr i he.symm)⟩

theorem Chg.alloc {F : Nat → Prop} (w : World) (o : Obj) : Chg F w (w.alloc o) := .of_below (below_alloc w o)
theorem Chg.drew {F : Nat → Prop} (w : World) : Chg F w w.drew := .of_below below_drew
theorem Chg.setCell {F : Nat → Prop} (w : World) {p : Addr} (v : Value) (hp : F p.block) : Chg F w (w.setCell p v) :=
  ⟨rfl, rfl, rfl, by simp [World.setCell], fun k _ hn => Below.heap_setCell _ _ _ _ fun he => hn (he ▸ hp)⟩
theorem Chg.setCells {F : Nat → Prop} {p : Addr} (hp : F p.block) : ∀ (vs : List Value) (i : Nat) (w : World), Chg F w (setCells p vs i w)
  | [], _, w => Chg.refl _ _
  | v :: r, i, w => (Chg.setCell w v (by rw [add_block]; exact hp)).trans (Chg.setCells hp r (i + 1) _) fun _ h => .inl h

theorem Chg.cell {F : Nat → Prop} {w w' : World} (h : Chg F w w') {p : Addr} (hp : p.block < w.heap.size) (hn : ¬ F p.block) : w'.cell? p = w.cell? p := World.cell?_of_block (w := w) (h.block _ hp hn)
theorem Chg.cellv {F : Nat → Prop} {w w' : World} (h : Chg F w w') {p : Addr} {v : Value} (hc : w.cell? p = some v) (hn : ¬ F p.block) : w'.cell? p = some v := by
  rw [h.cell (World.block_lt_of_cell? w p hc) hn]; exact hc
theorem Chg.frozen {F : Nat → Prop} {w w' : World} (h : Chg F w w') {p : Addr} (hp : p.block < w.heap.size) (hn : ¬ F p.block) : w'.frozen? p = w.frozen? p := World.frozen?_of_block (w := w) (h.block _ hp hn)
theorem Chg.wr {F : Nat → Prop} {w w' : World} (h : Chg F w w') {p : Addr} (hw : Wr w p) (hn : ¬ F p.block) : Wr w' p := by
  obtain ⟨⟨v, h1⟩, h2⟩ := hw
  exact ⟨⟨v, h.cellv h1 hn⟩, by rw [h.frozen (World.block_lt_of_cell? w p h1) hn]; exact h2⟩
theorem Chg.own {F : Nat → Prop} {w w' : World} (h : Chg F w w') {B : Nat} {e : TypeId} {size : Nat} {v : Value} {n : Nat} {xs : List Value} (ho : w.ownsRow B e size v n xs) (hn : ∀ k, v.ownBlock = some k → ¬ F k) : w'.ownsRow B e size v n xs := by
  obtain ⟨h1, h2⟩ := ho
  refine ⟨h1, ?_⟩
  rcases h2 with h2 | ⟨g, cap, cur, hv, hg, hh, r⟩
  · exact .inl h2
  · exact .inr ⟨g, cap, cur, hv, hg, by rw [h.block g (Array.getElem?_eq_some_iff.1 hh).1 (hn g (by rw [hv]; rfl))]; exact hh, r⟩

/-- the ghost of what may change, from world to world -/
structure Mv (G : Nat → Prop) (w : World) (G' : Nat → Prop) (w' : World) : Prop where
  fr : Chg G w w'
  grow : ∀ i, G i → G' i
  new : ∀ i, G' i → G i ∨ w.heap.size ≤ i

theorem Mv.refl (G : Nat → Prop) (w : World) : Mv G w G w := ⟨Chg.refl _ _, fun _ h => h, fun _ h => .inl h⟩
theorem Mv.trans {G G' G'' : Nat → Prop} {a b c : World} (h : Mv G a G' b) (k : Mv G' b G'' c) : Mv G a G'' c :=
  ⟨h.fr.trans k.fr h.new, fun i hi => k.grow i (h.grow i hi), fun i hi => by
    rcases k.new i hi with h1 | h1
    · exact h.new i h1
    · exact .inr (Nat.le_trans h.fr.size h1)⟩
theorem Mv.of_fr {F G : Nat → Prop} {w w' : World} (h : Chg F w w') (hF : ∀ i, F i → G i) : Mv G w G w' := ⟨h.mono fun i _ hi => hF i hi, fun _ h => h, fun _ h => .inl h⟩
theorem Mv.of_below {G : Nat → Prop} {w w' : World} (h : Below w.heap.size w w') : Mv G w G w' := .of_fr (F := fun _ => False) (.of_below h) fun _ h => h.elim

/-! numbers that never change -/

structure IntsG (G : Nat → Prop) (k : IntKind) (w : World) (s : Sl) (xs : List Int) : Prop where
  ints : Ints k w s xs
  out : ∀ p, s.a = some p → xs ≠ [] → ¬ G p.block

theorem IntsG.mv {G G' : Nat → Prop} {k : IntKind} {w w' : World} {s : Sl} {xs : List Int} (h : IntsG G k w s xs) (m : Mv G w G' w') : IntsG G' k w' s xs := by
  refine ⟨⟨h.ints.len, h.ints.small, fun i x hx => ?_⟩, fun p hp hne hg => ?_⟩
  · obtain ⟨p, hp, hlt, hc⟩ := h.ints.cell i x hx
    have hn := h.out p hp (by intro hh; rw [hh] at hx; simp at hx)
    exact ⟨p, hp, Nat.lt_of_lt_of_le hlt m.fr.size, m.fr.cellv hc (by rw [add_block]; exact hn)⟩
  · rcases m.new _ hg with h1 | h1
    · exact h.out p hp hne h1
    · have := h.ints.here hp hne; omega

theorem IntsG.less {G G' : Nat → Prop} {k : IntKind} {w : World} {s : Sl} {xs : List Int} (h : IntsG G k w s xs) (hG : ∀ i, i < w.heap.size → G' i → G i) : IntsG G' k w s xs :=
  ⟨h.ints, fun p hp hne hg => h.out p hp hne (hG _ (h.ints.here hp hne) hg)⟩

/-- what was there before all that may change -/
theorem Ints.g {G : Nat → Prop} {k : IntKind} {w : World} {s : Sl} {xs : List Int} (h : Ints k w s xs) (hG : ∀ i, G i → w.heap.size ≤ i) : IntsG G k w s xs :=
  ⟨h, fun p hp hne hg => by have := hG _ hg; have := h.here hp hne; omega⟩

/-! slices that never change, by what their elements' cells hold -/

structure ElsG {α : Type} (G : Nat → Prop) (n : Nat) (E : (Nat → Prop) → World → List Value → α → Prop) (w : World) (s : Sl) (xs : List α) : Prop where
  els : Els n (E G) w s xs
  out : ∀ p, s.a = some p → xs ≠ [] → ¬ G p.block

def StabG {α : Type} (E : (Nat → Prop) → World → List Value → α → Prop) : Prop := ∀ (G G' : Nat → Prop) (w w' : World) (cs : List Value) (x : α), Mv G w G' w' → E G w cs x → E G' w' cs x

theorem Els.here {α : Type} {n : Nat} {E : World → List Value → α → Prop} {w : World} {s : Sl} {xs : List α} (h : Els n E w s xs) {p : Addr} (hp : s.a = some p) (hx : xs ≠ []) : p.block < w.heap.size := by
  cases xs with
  | nil => exact absurd rfl hx
  | cons x xs => obtain ⟨q, _, hq, hlt, _⟩ := h.el 0 x rfl; rw [hp] at hq; obtain rfl := Option.some.inj hq; exact hlt

theorem ElsG.mv {α : Type} {G G' : Nat → Prop} {n : Nat} {E : (Nat → Prop) → World → List Value → α → Prop} (hE : StabG E) {w w' : World} {s : Sl} {xs : List α} (h : ElsG G n E w s xs) (m : Mv G w G' w') : ElsG G' n E w' s xs := by
  refine ⟨⟨h.els.len, h.els.small, fun i x hx => ?_⟩, fun p hp hne hg => ?_⟩
  · obtain ⟨p, cs, hp, hlt, hc, he⟩ := h.els.el i x hx
    have hn := h.out p hp (by intro hh; rw [hh] at hx; simp at hx)
    exact ⟨p, cs, hp, Nat.lt_of_lt_of_le hlt m.fr.size, fun j u hu => m.fr.cellv (hc j u hu) (by rw [add_block]; exact hn), hE _ _ _ _ _ _ m he⟩
  · rcases m.new _ hg with h1 | h1
    · exact h.out p hp hne h1
    · have := h.els.here hp hne; omega

/-! a row that grows -/

/-- elements behind a row of the call's own: where it lies then -/
theorem append_at {P : Program} {t ty e : TypeId} {i : TypeInfo} {z : Value} {size bytes : Nat} (ht : P.underlying t = some (.slice e)) (hi : P.info? e = some i) (hz : i.zero = some z) (hsize : i.size = size) (hby : i.bytes = bytes)
    (hzs : z.cells.size = size) (hsz : 0 < size) {w : World} {s : Sl} {n : Nat} {xs : List Value} (h : w.ownsRow 0 e size (.slice s.a s.len s.cap) n xs) {a : Addr} {m c : Nat} {news : List Value} (hl : news.length = m * size) (hnews : ∀ j u, news[j]? = some u → w.cell? (a.add j) = some u)
    (ho : ∀ u ∈ news, u.oneCell' = true) (hm : n + m ≤ maxLen) (hb : (n + m) * bytes ≤ 140737488355328) (hnm : 0 < n + m) :
    ∃ s' : Sl, ∃ w', (builtin .append #[t, t] ty #[] #[.slice s.a s.len s.cap, .slice (some a) m c]).run P w = .ok (.value (.slice s'.a s'.len s'.cap)) w' ∧ s'.len = n + m ∧
      w'.ownsRow 0 e size (.slice s'.a s'.len s'.cap) (n + m) (xs ++ news) ∧ w.grownBy w' (Value.slice s.a s.len s.cap).ownBlock ∧ (∀ p, s'.a = some p → (∃ q, s.a = some q ∧ p.block = q.block) ∨ p.block = w.heap.size) := by
  obtain ⟨v', w', hr, hown, hg, _, hat⟩ := run_append_own_at (P := P) w 0 t ty e i z size bytes ht hi hz hsize hby hzs hsz _ n xs h a m c news hl hnews ho hm hb (Nat.zero_le _)
  have hv : ∃ s' : Sl, v' = .slice s'.a s'.len s'.cap ∧ s'.len = n + m := by
    rcases hown.2 with ⟨rfl, h0⟩ | ⟨g, cap, cur, rfl, _⟩
    · omega
    · exact ⟨⟨some ⟨g, 0, none⟩, n + m, cap⟩, rfl, rfl⟩
  obtain ⟨s', rfl, hlen⟩ := hv
  refine ⟨s', w', by simp [builtin, hr], hlen, hown, hg, fun p hp => ?_⟩
  rw [hp] at hat
  rcases hat with h1 | h1
  · left
    cases hq : s.a with
    | none => rw [hq] at h1; simp [Value.ownBlock] at h1
    | some q => rw [hq] at h1; simp [Value.ownBlock] at h1; exact ⟨q, rfl, h1⟩
  · right; simpa [Value.ownBlock] using h1

end Go.Lf

/-
  Objects in memory that have nothing in common: 'Sep B w l': each of the assertions of l holds of w by blocks of its own, from block B on.
-/
namespace Go.Lf
open Go Go.RowKit Go.ChangeShapes
set_option linter.unusedVariables false

structure Asn where
  on : (Nat → Prop) → World → Prop
  loc : ∀ {F : Nat → Prop} {w w' : World}, on F w → (∀ i, F i → w'.heap[i]? = w.heap[i]?) → on F w'
  grow : ∀ {F F' : Nat → Prop} {w : World}, on F w → (∀ i, F i → F' i) → on F' w

def SepR : (Nat → Prop) → World → List Asn → Prop
  | _, _, [] => True
  | U, w, A :: r => ∃ F : Nat → Prop, (∀ i, F i → U i) ∧ A.on F w ∧ SepR (fun i => U i ∧ ¬ F i) w r

theorem SepR.mono : ∀ {l : List Asn} {U U' : Nat → Prop} {w : World}, SepR U w l → (∀ i, U i → U' i) → SepR U' w l
  | [], _, _, _, _, _ => trivial
  | A :: r, U, U', w, ⟨F, h1, h2, h3⟩, h => ⟨F, fun i hi => h i (h1 i hi), h2, SepR.mono h3 fun i hi => ⟨h i hi.1, hi.2⟩⟩

theorem SepR.loc : ∀ {l : List Asn} {U : Nat → Prop} {w w' : World}, SepR U w l → (∀ i, U i → w'.heap[i]? = w.heap[i]?) → SepR U w' l
  | [], _, _, _, _, _ => trivial
  | A :: r, U, w, w', ⟨F, h1, h2, h3⟩, h => ⟨F, h1, A.loc h2 fun i hi => h i (h1 i hi), SepR.loc h3 fun i hi => h i hi.1⟩

theorem SepR.perm {l l' : List Asn} (hp : l.Perm l') : ∀ {U : Nat → Prop} {w : World}, SepR U w l → SepR U w l' := by
  induction hp with
  | nil => intro U w h; exact h
  | cons A _ ih => intro U w ⟨F, h1, h2, h3⟩; exact ⟨F, h1, h2, ih h3⟩
  | swap A C l =>
    intro U w ⟨F, h1, h2, F2, h3, h4, h5⟩
    refine ⟨F2, fun i hi => (h3 i hi).1, h4, F, fun i hi => ⟨h1 i hi, fun h => (h3 i h).2 hi⟩, h2, h5.mono fun i hi => ⟨⟨hi.1.1, hi.2⟩, hi.1.2⟩⟩
  | trans _ _ ih1 ih2 => intro U w h; exact ih2 (ih1 h)

theorem SepR.append : ∀ {l l' : List Asn} {U : Nat → Prop} {w : World}, SepR U w (l ++ l') → ∃ F : Nat → Prop, (∀ i, F i → U i) ∧ SepR F w l ∧ SepR (fun i => U i ∧ ¬ F i) w l'
  | [], l', U, w, h => ⟨fun _ => False, fun _ h => h.elim, trivial, h.mono fun i hi => ⟨hi, fun h => h⟩⟩
  | A :: r, l', U, w, ⟨F, h1, h2, h3⟩ => by
    obtain ⟨F', k1, k2, k3⟩ := SepR.append h3
    refine ⟨fun i => F i ∨ F' i, fun i hi => hi.elim (h1 i) fun h => (k1 i h).1, ⟨F, fun i hi => .inl hi, h2, k2.mono fun i hi => ⟨.inr hi, (k1 i hi).2⟩⟩, k3.mono fun i hi => ⟨hi.1.1, fun h => h.elim hi.1.2 hi.2⟩⟩

theorem SepR.join : ∀ {l l' : List Asn} {U F : Nat → Prop} {w : World}, (∀ i, F i → U i) → SepR F w l → SepR (fun i => U i ∧ ¬ F i) w l' → SepR U w (l ++ l')
  | [], l', U, F, w, _, _, h => h.mono fun i hi => hi.1
  | A :: r, l', U, F, w, hF, ⟨F0, h1, h2, h3⟩, h => by
    refine ⟨F0, fun i hi => hF i (h1 i hi), h2, SepR.join (F := fun i => F i ∧ ¬ F0 i) (fun i hi => ⟨hF i hi.1, hi.2⟩) h3 (h.mono fun i hi => ⟨⟨hi.1, fun h0 => hi.2 (h1 i h0)⟩, fun hh => hi.2 hh.1⟩)⟩

def reg (B : Nat) (w : World) : Nat → Prop := fun i => B ≤ i ∧ i < w.heap.size

structure Sep (B : Nat) (w : World) (l : List Asn) : Prop where
  le : B ≤ w.heap.size
  sep : SepR (reg B w) w l

theorem Sep.nil {B : Nat} {w : World} (h : B ≤ w.heap.size) : Sep B w [] := ⟨h, trivial⟩
theorem Sep.perm {B : Nat} {w : World} {l l' : List Asn} (h : Sep B w l) (hp : l.Perm l') : Sep B w l' := ⟨h.le, h.sep.perm hp⟩

/-- some objects are turned into others -/
theorem Sep.turn {B : Nat} {w : World} {l R : List Asn} (h : Sep B w (l ++ R)) : ∃ F : Nat → Prop, SepR F w l ∧ (∀ i, F i → B ≤ i ∧ i < w.heap.size) ∧
    ∀ {l' : List Asn} {F' : Nat → Prop} {w' : World}, SepR F' w' l' → Chg F w w' → (∀ i, F' i → (F i ∨ w.heap.size ≤ i) ∧ i < w'.heap.size) → Sep B w' (l' ++ R) := by
  obtain ⟨F, h1, h2, h3⟩ := h.sep.append
  refine ⟨F, h2, h1, fun {l' F' w'} k1 k2 k3 => ⟨Nat.le_trans h.le k2.size, SepR.join (F := F') (fun i hi => ?_) k1 ?_⟩⟩
  · obtain ⟨h4, h5⟩ := k3 i hi
    refine ⟨?_, h5⟩
    rcases h4 with h4 | h4
    · exact (h1 i h4).1
    · exact Nat.le_trans h.le h4
  · have h6 : SepR (fun i => reg B w i ∧ ¬ F i) w' R := h3.loc fun i hi => k2.block i hi.1.2 hi.2
    refine h6.mono fun i hi => ⟨⟨hi.1.1, Nat.lt_of_lt_of_le hi.1.2 k2.size⟩, fun hf => ?_⟩
    rcases (k3 i hf).1 with h7 | h7
    · exact hi.2 h7
    · exact absurd hi.1.2 (Nat.not_lt.2 h7)

theorem SepR.one {U : Nat → Prop} {w : World} {A : Asn} : SepR U w [A] ↔ A.on U w :=
  ⟨fun ⟨_, h1, h2, _⟩ => A.grow h2 h1, fun h => ⟨U, fun _ h => h, h, trivial⟩⟩

theorem Sep.open {B : Nat} {w : World} {A : Asn} {R : List Asn} (h : Sep B w (A :: R)) : ∃ F : Nat → Prop, A.on F w ∧ (∀ i, F i → B ≤ i ∧ i < w.heap.size) ∧
    ∀ {A' : Asn} {F' : Nat → Prop} {w' : World}, A'.on F' w' → Chg F w w' → (∀ i, F' i → (F i ∨ w.heap.size ≤ i) ∧ i < w'.heap.size) → Sep B w' (A' :: R) := by
  obtain ⟨F, h1, h2, h3⟩ := Sep.turn (l := [A]) h
  exact ⟨F, SepR.one.1 h1, h2, fun k1 k2 k3 => h3 (l' := [_]) (SepR.one.2 k1) k2 k3⟩

theorem Sep.drop {B : Nat} {w : World} {A : Asn} {R : List Asn} (h : Sep B w (A :: R)) : Sep B w R := by
  obtain ⟨F, h1, h2, h3⟩ := h.sep
  exact ⟨h.le, h3.mono fun i hi => hi.1⟩
theorem Sep.dropL {B : Nat} {w : World} : ∀ {l R : List Asn}, Sep B w (l ++ R) → Sep B w R
  | [], _, h => h
  | _ :: _, _, h => Sep.dropL (Sep.drop h)

/-- all stays where nothing that was there turns -/
theorem Sep.keep {B : Nat} {w w' : World} {l : List Asn} (h : Sep B w l) (hb : Below w.heap.size w w') : Sep B w' l :=
  ⟨Nat.le_trans h.le hb.size, (h.sep.loc fun i hi => hb.block i hi.2).mono fun i hi => ⟨hi.1, Nat.lt_of_lt_of_le hi.2 hb.size⟩⟩
theorem Sep.same {B : Nat} {w w' : World} {l : List Asn} (h : Sep B w l) (hs : Same w w') : Sep B w' l := h.keep (hs.below _)
theorem Sep.drew {B : Nat} {w : World} {l : List Asn} (h : Sep B w l) : Sep B w.drew l := h.same (Same.drew w)

theorem Sep.newL {B : Nat} {w w' : World} {l R : List Asn} {F : Nat → Prop} (h : Sep B w R) (hA : SepR F w' l) (hF : ∀ i, F i → w.heap.size ≤ i ∧ i < w'.heap.size) (hb : Below w.heap.size w w') : Sep B w' (l ++ R) := by
  obtain ⟨F0, h1, h2, h3⟩ := Sep.turn (l := []) (R := R) h
  exact h3 hA (Chg.of_below hb) fun i hi => ⟨.inr (hF i hi).1, (hF i hi).2⟩
theorem Sep.new {B : Nat} {w w' : World} {A : Asn} {R : List Asn} {F : Nat → Prop} (h : Sep B w R) (hA : A.on F w') (hF : ∀ i, F i → w.heap.size ≤ i ∧ i < w'.heap.size) (hb : Below w.heap.size w w') : Sep B w' (A :: R) :=
  Sep.newL (l := [A]) h (SepR.one.2 hA) hF hb

theorem perm_front {α : Type} : ∀ {l : List α} {k : Nat} {A : α}, l[k]? = some A → l.Perm (A :: l.eraseIdx k)
  | [], _, _, h => by simp at h
  | x :: r, 0, A, h => by simp at h; subst h; exact .refl _
  | x :: r, k + 1, A, h => by
    have := perm_front (l := r) (k := k) (A := A) (by simpa using h)
    exact (this.cons x).trans (.swap A x _)

/-- number k in front -/
theorem Sep.front {B : Nat} {w : World} {l : List Asn} (k : Nat) {A : Asn} (hk : l[k]? = some A) (h : Sep B w l) : Sep B w (A :: l.eraseIdx k) := h.perm (perm_front hk)
theorem Sep.back {B : Nat} {w : World} {l : List Asn} (k : Nat) {A : Asn} (hk : k < l.length) (h : Sep B w (A :: l.eraseIdx k)) : Sep B w (l.set k A) := by
  refine h.perm ?_
  have h1 := perm_front (l := l.set k A) (k := k) (A := A) (by simp [hk])
  rw [List.eraseIdx_set_eq] at h1
  exact h1.symm

/-- number k, turned into another -/
theorem Sep.at {B : Nat} {w : World} {l : List Asn} (k : Nat) {A : Asn} (hk : l[k]? = some A) (h : Sep B w l) : ∃ F : Nat → Prop, A.on F w ∧ (∀ i, F i → B ≤ i ∧ i < w.heap.size) ∧
    ∀ {A' : Asn} {F' : Nat → Prop} {w' : World}, A'.on F' w' → Chg F w w' → (∀ i, F' i → (F i ∨ w.heap.size ≤ i) ∧ i < w'.heap.size) → Sep B w' (l.set k A') := by
  obtain ⟨F, h1, h2, h3⟩ := (h.front k hk).open
  exact ⟨F, h1, h2, fun k1 k2 k3 => (h3 k1 k2 k3).back k (List.getElem?_eq_some_iff.1 hk).1⟩

theorem Sep.get {B : Nat} {w : World} {l : List Asn} (k : Nat) {A : Asn} (hk : l[k]? = some A) (h : Sep B w l) : ∃ F : Nat → Prop, A.on F w ∧ (∀ i, F i → B ≤ i ∧ i < w.heap.size) := by
  obtain ⟨F, h1, h2, _⟩ := h.at k hk
  exact ⟨F, h1, h2⟩

theorem Sep.comm {B : Nat} {w : World} {l l' R : List Asn} (h : Sep B w (l ++ (l' ++ R))) : Sep B w (l' ++ (l ++ R)) := by
  refine h.perm ?_
  rw [← List.append_assoc, ← List.append_assoc]
  exact List.perm_append_comm.append_right R
theorem Sep.swap {B : Nat} {w : World} {A C : Asn} {R : List Asn} (h : Sep B w (A :: C :: R)) : Sep B w (C :: A :: R) := h.perm (.swap _ _ _)

/-! groups -/

def exA {α : Type} (φ : α → Prop) (Φ : α → List Asn) : Asn where
  on F w := ∃ x, φ x ∧ SepR F w (Φ x)
  loc := fun ⟨x, h1, h2⟩ h => ⟨x, h1, h2.loc h⟩
  grow := fun ⟨x, h1, h2⟩ h => ⟨x, h1, h2.mono h⟩

theorem Sep.unfold {B : Nat} {w : World} {α : Type} {φ : α → Prop} {Φ : α → List Asn} {R : List Asn} (h : Sep B w (exA φ Φ :: R)) : ∃ x, φ x ∧ Sep B w (Φ x ++ R) := by
  obtain ⟨F, h1, ⟨x, hx, h2⟩, h3⟩ := h.sep
  exact ⟨x, hx, h.le, SepR.join h1 h2 h3⟩
theorem Sep.fold {B : Nat} {w : World} {α : Type} {φ : α → Prop} {Φ : α → List Asn} {R : List Asn} (x : α) (hx : φ x) (h : Sep B w (Φ x ++ R)) : Sep B w (exA φ Φ :: R) := by
  obtain ⟨F, h1, h2, h3⟩ := h.sep.append
  exact ⟨h.le, F, h1, ⟨x, hx, h2⟩, h3⟩

/-! boxes -/

def boxA (p : Addr) (cs : List Value) : Asn where
  on F w := F p.block ∧ (∀ (j : Nat) (u : Value), cs[j]? = some u → w.cell? (p.add j) = some u) ∧ (∀ j, j < cs.length → w.frozen? (p.add j) = false)
  loc := fun ⟨h1, h2, h3⟩ h => ⟨h1, fun j u hu => by rw [World.cell?_of_block (a := p.add j) (h (p.add j).block (by rw [add_block]; exact h1))]; exact h2 j u hu, fun j hj => by rw [World.frozen?_of_block (a := p.add j) (h (p.add j).block (by rw [add_block]; exact h1))]; exact h3 j hj⟩
  grow := fun ⟨h1, h2, h3⟩ h => ⟨h _ h1, h2, h3⟩

theorem boxA.set {F : Nat → Prop} {w : World} {p : Addr} {cs : List Value} (h : (boxA p cs).on F w) {j : Nat} (hj : j < cs.length) (u : Value) :
    Wr w (p.add j) ∧ (boxA p (cs.set j u)).on F (w.setCell (p.add j) u) := by
  obtain ⟨h1, h2, h3⟩ := h
  have hc := h2 j _ (List.getElem?_eq_getElem hj)
  refine ⟨⟨⟨_, hc⟩, h3 j hj⟩, h1, fun i v hv => ?_, fun i hi => by rw [World.frozen?_setCell]; exact h3 i (by simpa using hi)⟩
  rw [List.getElem?_set] at hv
  by_cases hij : j = i
  · subst hij
    rw [if_pos rfl, if_pos hj] at hv
    obtain rfl := Option.some.inj hv
    exact World.cell?_setCell_same w _ _ hc
  · rw [if_neg hij] at hv
    rw [World.cell?_setCell_other w _ _ _ fun he => hij (add_inj he)]
    exact h2 i v hv

/-- number k is a box: its cells; and it is written -/
theorem Sep.cell {B : Nat} {w : World} {l : List Asn} (k : Nat) {p : Addr} {cs : List Value} (hk : l[k]? = some (boxA p cs)) (h : Sep B w l) (j : Nat) {u : Value} (hj : cs[j]? = some u) : w.cell? (p.add j) = some u := by
  obtain ⟨F, ⟨_, h2, _⟩, _⟩ := h.get k hk
  exact h2 j u hj
theorem Sep.cell0 {B : Nat} {w : World} {l : List Asn} (k : Nat) {p : Addr} {cs : List Value} (hk : l[k]? = some (boxA p cs)) (h : Sep B w l) {u : Value} (hj : cs[0]? = some u) : w.cell? p = some u := by
  have := h.cell k hk 0 hj
  rwa [add_zero] at this
theorem Sep.wr {B : Nat} {w : World} {l : List Asn} (k : Nat) {p : Addr} {cs : List Value} (hk : l[k]? = some (boxA p cs)) (h : Sep B w l) {j : Nat} (hj : j < cs.length) : Wr w (p.add j) := by
  obtain ⟨F, hb, _⟩ := h.get k hk
  exact (boxA.set hb hj undef).1
theorem Sep.wr0 {B : Nat} {w : World} {l : List Asn} (k : Nat) {p : Addr} {cs : List Value} (hk : l[k]? = some (boxA p cs)) (h : Sep B w l) (hj : 0 < cs.length) : Wr w p := by
  have := h.wr k hk hj
  rwa [add_zero] at this
theorem Sep.set {B : Nat} {w : World} {l : List Asn} (k : Nat) {p : Addr} {cs : List Value} (hk : l[k]? = some (boxA p cs)) (h : Sep B w l) {j : Nat} (hj : j < cs.length) (u : Value) :
    Sep B (w.setCell (p.add j) u) (l.set k (boxA p (cs.set j u))) ∧ Below B w (w.setCell (p.add j) u) := by
  obtain ⟨F, hb, hF, back⟩ := h.at k hk
  have h1 := (boxA.set hb hj u).2
  have h2 : Chg F w (w.setCell (p.add j) u) := Chg.setCell w u (by rw [add_block]; exact hb.1)
  exact ⟨back h1 h2 fun i hi => ⟨.inl hi, Nat.lt_of_lt_of_le (hF i hi).2 h2.size⟩, h2.below (fun i hi => (hF i hi).1) h.le⟩
theorem Sep.set0 {B : Nat} {w : World} {l : List Asn} (k : Nat) {p : Addr} {cs : List Value} (hk : l[k]? = some (boxA p cs)) (h : Sep B w l) (hj : 0 < cs.length) (u : Value) :
    Sep B (w.setCell p u) (l.set k (boxA p (cs.set 0 u))) ∧ Below B w (w.setCell p u) := by
  have := h.set k hk hj u
  rwa [add_zero] at this

/-- a new box -/
theorem Sep.box {B : Nat} {w : World} {R : List Asn} (h : Sep B w R) (cs : List Value) (T : TypeId) : Sep B (w.alloc (.cells cs.toArray T)) (boxA (newA w) cs :: R) ∧ Below B w (w.alloc (.cells cs.toArray T)) := by
  have hb := below_alloc w (.cells cs.toArray T)
  refine ⟨h.new (F := fun i => i = w.heap.size) ⟨newA_block w, fun j u hu => by rw [cell_new]; simpa using hu, fun j hj => (wr_new w _ T (by simpa using hj)).2⟩ (fun i hi => by subst hi; rw [size_alloc]; omega) hb, hb.mono h.le⟩

/-! rows -/

def rowA (e : TypeId) (size : Nat) (s : Sl) (n : Nat) (vs : List Value) : Asn where
  on F w := w.ownsRow 0 e size (.slice s.a s.len s.cap) n vs ∧ ∀ q, s.a = some q → F q.block
  loc := fun ⟨h1, h2⟩ h => ⟨by
    obtain ⟨k1, k2⟩ := h1
    refine ⟨k1, ?_⟩
    rcases k2 with k2 | ⟨g, cap, cur, hv, hg, hh, r⟩
    · exact .inl k2
    · refine .inr ⟨g, cap, cur, hv, hg, ?_, r⟩
      simp only [Value.slice.injEq] at hv
      rw [h g (h2 _ hv.1)]; exact hh, h2⟩
  grow := fun ⟨h1, h2⟩ h => ⟨h1, fun q hq => h _ (h2 q hq)⟩

theorem rowA.len {F : Nat → Prop} {w : World} {e : TypeId} {size : Nat} {s : Sl} {n : Nat} {vs : List Value} (h : (rowA e size s n vs).on F w) : s.len = n ∧ vs.length = n * size := by
  refine ⟨?_, h.1.1⟩
  rcases h.1.2 with ⟨h1, h0⟩ | ⟨g, cap, cur, h1, _⟩
  · simp only [Value.slice.injEq] at h1; omega
  · simp only [Value.slice.injEq] at h1; exact h1.2.1

theorem rowA.cell {F : Nat → Prop} {w : World} {e : TypeId} {size : Nat} {s : Sl} {n : Nat} {vs : List Value} (h : (rowA e size s n vs).on F w) {j : Nat} (hj : j < vs.length) :
    ∃ q, s.a = some q ∧ q = ⟨q.block, 0, none⟩ ∧ (∀ (i : Nat) (u : Value), vs[i]? = some u → w.cell? (q.add i) = some u) ∧ q.block < w.heap.size := by
  rcases h.1.2 with ⟨h1, h0⟩ | ⟨g, cap, cur, h1, hB, hg, r⟩
  · have := h.1.1; rw [h0, Nat.zero_mul] at this; omega
  · have hb : (Value.slice s.a s.len s.cap).ownBlock = some g := by rw [h1]; rfl
    simp only [Value.slice.injEq] at h1
    refine ⟨_, h1.1, rfl, fun i u hu => World.ownsRow.cells h.1 hb i u hu, ?_⟩
    exact (Array.getElem?_eq_some_iff.1 hg).1

theorem rowA.set {F : Nat → Prop} {w : World} {e : TypeId} {size : Nat} {s : Sl} {n : Nat} {vs : List Value} (h : (rowA e size s n vs).on F w) {q : Addr} (hq : s.a = some q) {j : Nat} (hj : j < vs.length) (u : Value) :
    Wr w (q.add j) ∧ (rowA e size s n (vs.set j u)).on F (w.setCell (q.add j) u) := by
  obtain ⟨h1, h2⟩ := own_set h.1 hq hj u
  exact ⟨h1, h2, h.2⟩

theorem Sep.rowLen {B : Nat} {w : World} {l : List Asn} (k : Nat) {e : TypeId} {size : Nat} {s : Sl} {n : Nat} {vs : List Value} (hk : l[k]? = some (rowA e size s n vs)) (h : Sep B w l) : s.len = n ∧ vs.length = n * size := by
  obtain ⟨F, h1, _⟩ := h.get k hk
  exact rowA.len h1
theorem Sep.rowCell {B : Nat} {w : World} {l : List Asn} (k : Nat) {e : TypeId} {size : Nat} {s : Sl} {n : Nat} {vs : List Value} (hk : l[k]? = some (rowA e size s n vs)) (h : Sep B w l) {j : Nat} (hj : j < vs.length) :
    ∃ q, s.a = some q ∧ (∀ (i : Nat) (u : Value), vs[i]? = some u → w.cell? (q.add i) = some u) := by
  obtain ⟨F, h1, _⟩ := h.get k hk
  obtain ⟨q, h2, _, h3, _⟩ := rowA.cell h1 hj
  exact ⟨q, h2, h3⟩
theorem Sep.rowWr {B : Nat} {w : World} {l : List Asn} (k : Nat) {e : TypeId} {size : Nat} {s : Sl} {n : Nat} {vs : List Value} (hk : l[k]? = some (rowA e size s n vs)) (h : Sep B w l) {q : Addr} (hq : s.a = some q) {j : Nat} (hj : j < vs.length) : Wr w (q.add j) := by
  obtain ⟨F, h1, _⟩ := h.get k hk
  exact (rowA.set h1 hq hj undef).1
theorem Sep.rowSet {B : Nat} {w : World} {l : List Asn} (k : Nat) {e : TypeId} {size : Nat} {s : Sl} {n : Nat} {vs : List Value} (hk : l[k]? = some (rowA e size s n vs)) (h : Sep B w l) {q : Addr} (hq : s.a = some q) {j : Nat} (hj : j < vs.length) (u : Value) :
    Sep B (w.setCell (q.add j) u) (l.set k (rowA e size s n (vs.set j u))) ∧ Below B w (w.setCell (q.add j) u) := by
  obtain ⟨F, hb, hF, back⟩ := h.at k hk
  have h1 := (rowA.set hb hq hj u).2
  have h2 : Chg F w (w.setCell (q.add j) u) := Chg.setCell w u (by rw [add_block]; exact hb.2 q hq)
  exact ⟨back h1 h2 fun i hi => ⟨.inl hi, Nat.lt_of_lt_of_le (hF i hi).2 h2.size⟩, h2.below (fun i hi => (hF i hi).1) h.le⟩

theorem Sep.rowNil {B : Nat} {w : World} {R : List Asn} (h : Sep B w R) (e : TypeId) (size : Nat) : Sep B w (rowA e size ⟨none, 0, 0⟩ 0 [] :: R) :=
  h.new (F := fun _ => False) ⟨World.ownsRow_nil _ _ _ _, fun q hq => by cases hq⟩ (fun _ h => h.elim) (Below.refl _ _)

/-- elements behind a row -/
theorem Sep.append {P : Program} {t ty e : TypeId} {i : TypeInfo} {z : Value} {size bytes : Nat} (ht : P.underlying t = some (.slice e)) (hi : P.info? e = some i) (hz : i.zero = some z) (hsize : i.size = size) (hby : i.bytes = bytes)
    (hzs : z.cells.size = size) (hsz : 0 < size) {B : Nat} {w : World} {l : List Asn} (k : Nat) {s : Sl} {n : Nat} {vs : List Value} (hk : l[k]? = some (rowA e size s n vs)) (h : Sep B w l) {a : Addr} {m c : Nat} {news : List Value} (hl : news.length = m * size)
    (hnews : ∀ j u, news[j]? = some u → w.cell? (a.add j) = some u) (ho : ∀ u ∈ news, u.oneCell' = true) (hm : n + m ≤ maxLen) (hb : (n + m) * bytes ≤ 140737488355328) (hnm : 0 < n + m) :
    ∃ s' : Sl, ∃ w', (builtin .append #[t, t] ty #[] #[.slice s.a s.len s.cap, .slice (some a) m c]).run P w = .ok (.value (.slice s'.a s'.len s'.cap)) w' ∧ s'.len = n + m ∧
      Sep B w' (l.set k (rowA e size s' (n + m) (vs ++ news))) ∧ Below B w w' := by
  obtain ⟨F, hr, hF, back⟩ := h.at k hk
  obtain ⟨s', w', hrun, hlen, hown, hg, hat⟩ := append_at (ty := ty) ht hi hz hsize hby hzs hsz hr.1 hl hnews ho hm hb hnm
  have hc : Chg F w w' := Chg.of_grown hg fun g hgr => by
    cases ha : s.a with
    | none => rw [ha] at hgr; simp [Value.ownBlock] at hgr
    | some q => rw [ha] at hgr; simp [Value.ownBlock] at hgr; subst hgr; exact hr.2 q ha
  refine ⟨s', w', hrun, hlen, ?_, hc.below (fun i hi => (hF i hi).1) h.le⟩
  have hin : ∀ q, s'.a = some q → q.block < w'.heap.size := fun q hq => (hown.lt q.block (by rw [hq]; rfl)).2
  refine back (F' := fun i => (F i ∨ w.heap.size ≤ i) ∧ i < w'.heap.size) ⟨hown, fun q hq => ⟨?_, hin q hq⟩⟩ hc fun i hi => hi
  rcases hat q hq with ⟨q', hq', he⟩ | he
  · rw [he]; exact .inl (hr.2 q' hq')
  · rw [he]; exact .inr (Nat.le_refl _)

/-- a row that a call has made -/
theorem Sep.row {B : Nat} {w w' : World} {R : List Asn} {e : TypeId} {size : Nat} {s : Sl} {n : Nat} {vs : List Value} (h : Sep B w R) (ho : w'.ownsRow w.heap.size e size (.slice s.a s.len s.cap) n vs) (hb : Below w.heap.size w w') : Sep B w' (rowA e size s n vs :: R) := by
  refine h.new (F := fun i => ∃ q, s.a = some q ∧ q.block = i) ⟨?_, fun q hq => ⟨q, hq, rfl⟩⟩ (fun i ⟨q, hq, he⟩ => ?_) hb
  · obtain ⟨h1, h2⟩ := ho
    refine ⟨h1, ?_⟩
    rcases h2 with h2 | ⟨g, cap, cur, hv, hg, r⟩
    · exact .inl h2
    · exact .inr ⟨g, cap, cur, hv, Nat.zero_le _, r⟩
  · have := ho.lt q.block (by rw [hq]; rfl)
    rw [← he]; exact this

/-! numbers that are read alone -/

def intsA (k : IntKind) (s : Sl) (xs : List Int) : Asn where
  on F w := Ints k w s xs ∧ ∀ p, s.a = some p → xs ≠ [] → F p.block
  loc := fun ⟨h1, h2⟩ h => ⟨⟨h1.len, h1.small, fun i x hx => by
    obtain ⟨p, hp, hlt, hc⟩ := h1.cell i x hx
    have hF := h2 p hp (by intro hh; rw [hh] at hx; simp at hx)
    have hc' := World.cell?_of_block (a := p.add i) (h (p.add i).block (by rw [add_block]; exact hF))
    rw [hc] at hc'
    refine ⟨p, hp, ?_, hc'⟩
    have := World.block_lt_of_cell? _ _ hc'
    rwa [add_block] at this⟩, h2⟩
  grow := fun ⟨h1, h2⟩ h => ⟨h1, fun p hp hx => h _ (h2 p hp hx)⟩

/-- many of them, which may have blocks in common -/
def intsAll (k : IntKind) (L : List (Sl × List Int)) : Asn where
  on F w := ∀ x ∈ L, (intsA k x.1 x.2).on F w
  loc := fun h1 h x hx => (intsA k x.1 x.2).loc (h1 x hx) h
  grow := fun h1 h x hx => (intsA k x.1 x.2).grow (h1 x hx) h

theorem Sep.intsAt {B : Nat} {w : World} {l : List Asn} (n : Nat) {k : IntKind} {L : List (Sl × List Int)} (hk : l[n]? = some (intsAll k L)) (h : Sep B w l) {x : Sl × List Int} (hx : x ∈ L) : Ints k w x.1 x.2 := by
  obtain ⟨F, h1, _⟩ := h.get n hk
  exact (h1 x hx).1
theorem Sep.intsNil {B : Nat} {w : World} {R : List Asn} (h : Sep B w R) (k : IntKind) : Sep B w (intsAll k [] :: R) :=
  h.new (F := fun _ => False) (fun x hx => by cases hx) (fun _ h => h.elim) (Below.refl _ _)
/-- one more, that a call has made -/
theorem Sep.intsMore {B : Nat} {w w' : World} {l : List Asn} (n : Nat) {k : IntKind} {L : List (Sl × List Int)} (hk : l[n]? = some (intsAll k L)) (h : Sep B w l) {e : TypeId} {s : Sl} {xs : List Int} (ho : OwnI w.heap.size e k w' s xs) (hx : xs.length ≤ 9223372036854775807) (hb : Below w.heap.size w w') :
    Sep B w' (l.set n (intsAll k ((s, xs) :: L))) := by
  obtain ⟨F, h1, hF, back⟩ := h.at n hk
  have hI := ho.ints hx
  refine back (F' := fun i => (F i ∨ w.heap.size ≤ i) ∧ i < w'.heap.size) (fun x hx => ?_) (Chg.of_below hb) fun i hi => hi
  rcases List.mem_cons.1 hx with rfl | hx
  · exact ⟨hI, fun p hp _ => ⟨.inr (ho.own p hp).1, (ho.own p hp).2⟩⟩
  · refine (intsA k x.1 x.2).grow ((intsA k x.1 x.2).loc (h1 x hx) fun i hi => hb.block i (hF i hi).2) fun i hi => ⟨.inl hi, Nat.lt_of_lt_of_le (hF i hi).2 hb.size⟩
theorem Sep.intsLess {B : Nat} {w : World} {l : List Asn} (n : Nat) {k : IntKind} {L L' : List (Sl × List Int)} (hk : l[n]? = some (intsAll k L)) (h : Sep B w l) (hL : ∀ x ∈ L', x ∈ L) : Sep B w (l.set n (intsAll k L')) := by
  obtain ⟨F, h1, hF, back⟩ := h.at n hk
  exact back (fun x hx => h1 x (hL x hx)) (Chg.refl _ _) fun i hi => ⟨.inl hi, (hF i hi).2⟩

end Go.Lf

/-
  Rows of the call's own, more: what slices.Clone, make and copy leave; rows whose elements are wider than a cell.
-/
namespace Go.Lf
open Go Go.RowKit Go.ChangeShapes
set_option linter.unusedVariables false

/-- all of a slice behind an empty row that was just made -/
theorem clone_go {P : Program} {t ty e : TypeId} {i : TypeInfo} {z : Value} {size bytes : Nat} (ht : P.underlying t = some (.slice e)) (hi : P.info? e = some i) (hz : i.zero = some z) (hsize : i.size = size) (hby : i.bytes = bytes)
    (hzs : z.cells.size = size) (hsz : 0 < size) {w : World} {a : Addr} {m c : Nat} {news : List Value} (hl : news.length = m * size) (hnews : ∀ j u, news[j]? = some u → w.cell? (a.add j) = some u) (ho : ∀ u ∈ news, u.oneCell' = true)
    (hm : m ≤ maxLen) (hb : m * bytes ≤ 140737488355328) :
    ∃ s' : Sl, ∃ w', (builtin .append #[t, t] ty #[] #[.slice (some (newA w)) 0 0, .slice (some a) m c]).run P (w.alloc (.cells #[] e)) = .ok (.value (.slice s'.a s'.len s'.cap)) w' ∧ s'.len = m ∧
      w'.ownsRow w.heap.size e size (.slice s'.a s'.len s'.cap) m news ∧ Below w.heap.size w w' := by
  have hown : (w.alloc (.cells #[] e)).ownsRow w.heap.size e size (.slice (some (newA w)) 0 0) 0 [] :=
    ⟨by simp, .inr ⟨w.heap.size, 0, #[], rfl, Nat.le_refl _, heap_alloc_new w _, Nat.le_refl _, by unfold maxLen; omega, by simp, by simp⟩⟩
  obtain ⟨v', w', hr, hown', hg, hno, hat⟩ := run_append_own_at (P := P) (w.alloc (.cells #[] e)) w.heap.size t ty e i z size bytes ht hi hz hsize hby hzs hsz _ 0 [] hown a m c news hl (fun j u hu => cell_alloc_old (hnews j u hu)) ho
    (by simpa using hm) (by simpa using hb) (by rw [size_alloc]; omega)
  rw [Nat.zero_add, List.nil_append] at hown'
  have hv : ∃ s' : Sl, v' = .slice s'.a s'.len s'.cap ∧ s'.len = m := by
    rcases hown'.2 with ⟨rfl, h0⟩ | ⟨g, cap, cur, rfl, _⟩
    · exact ⟨⟨none, 0, 0⟩, rfl, h0.symm⟩
    · exact ⟨⟨some ⟨g, 0, none⟩, m, cap⟩, rfl, rfl⟩
  obtain ⟨s', rfl, hlen⟩ := hv
  refine ⟨s', w', by simp [builtin, hr], hlen, hown', (below_alloc w _).grown hg (Nat.le_trans (Nat.le_refl _) (by rw [size_alloc]; omega)) fun k hk => ?_⟩
  simp [Value.ownBlock, newA] at hk
  omega

theorem ints_news {k : IntKind} {w : World} {s : Sl} {xs : List Int} (h : Ints k w s xs) {a : Addr} (ha : s.a = some a) : ∀ (j : Nat) (u : Value), (xs.map (Value.int k))[j]? = some u → w.cell? (a.add j) = some u := by
  intro j u hu
  rw [List.getElem?_map, Option.map_eq_some_iff] at hu
  obtain ⟨x, hx, rfl⟩ := hu
  obtain ⟨p, hp, _, hc⟩ := h.cell j x hx
  rw [ha] at hp
  obtain rfl := Option.some.inj hp
  exact hc

theorem one_ints {k : IntKind} {xs : List Int} : ∀ u ∈ xs.map (Value.int k), u.oneCell' = true := by
  intro u hu; simp at hu; obtain ⟨x, _, rfl⟩ := hu; rfl

/-- slices.Clone of numbers: what is left where the slice is not nil -/
theorem clone_ints {P : Program} {t ty e : TypeId} {i : TypeInfo} {k : IntKind} {bytes : Nat} (ht : P.underlying t = some (.slice e)) (hi : P.info? e = some i) (hz : i.zero = some (.int k 0)) (hsize : i.size = 1) (hby : i.bytes = bytes)
    {w : World} {s : Sl} {xs : List Int} (h : Ints k w s xs) {a : Addr} (ha : s.a = some a) (hm : xs.length ≤ maxLen) (hb : xs.length * bytes ≤ 140737488355328) :
    ∃ s' : Sl, ∃ w', (builtin .append #[t, t] ty #[] #[.slice (some (newA w)) 0 0, .slice s.a s.len s.cap]).run P (w.alloc (.cells #[] e)) = .ok (.value (.slice s'.a s'.len s'.cap)) w' ∧ OwnI w.heap.size e k w' s' xs ∧ Below w.heap.size w w' := by
  rw [ha, h.len]
  obtain ⟨s', w', hr, hl, ho, hb'⟩ := clone_go (ty := ty) (c := s.cap) ht hi hz hsize hby rfl (by omega) (w := w) (m := xs.length) (news := xs.map (Value.int k)) (by simp) (ints_news h ha) one_ints hm hb
  exact ⟨s', w', hr, ho, hb'⟩

/-! the cells that make leaves -/

theorem range_cells {n : Nat} {v : Value} : ((Array.range (n * 1)).map ((#[v] : Array Value)[· % (#[v] : Array Value).size]!)) = (List.replicate n v).toArray := by
  apply Array.ext
  · simp
  · intro i h1 h2
    simp only [Array.getElem_map, Array.getElem_range, List.getElem_toArray, List.getElem_replicate]
    have : i % (#[v] : Array Value).size = 0 := by simp [Nat.mod_one]
    rw [this]; rfl

theorem row_made {w : World} {n : Nat} {e : TypeId} {size : Nat} {cs : List Value} (hl : cs.length = n * size) (hn : n ≤ maxLen) : (w.alloc (.cells cs.toArray e)).ownsRow w.heap.size e size (.slice (some (newA w)) n n) n cs :=
  ⟨hl, .inr ⟨w.heap.size, n, cs.toArray, rfl, Nat.le_refl _, heap_alloc_new w _, Nat.le_refl _, hn, by simpa using hl, by simp [← hl]⟩⟩

theorem make_ints {w : World} {n : Nat} {e : TypeId} {k : IntKind} (hn : n ≤ maxLen) : OwnI w.heap.size e k (w.alloc (.cells ((Array.range (n * 1)).map ((#[.int k 0] : Array Value)[· % (#[.int k 0] : Array Value).size]!)) e)) ⟨some (newA w), n, n⟩ (List.replicate n 0) := by
  rw [range_cells]
  unfold OwnI
  rw [List.length_replicate, List.map_replicate]
  exact row_made (by simp) hn

/-- copy onto numbers of the call's own -/
theorem copy_ints {P : Program} {t t' ty e : TypeId} {k : IntKind} (ht : P.underlying t = some (.slice e)) (hs : (P.info? e).map (·.size) = some 1) {B : Nat} {w : World} {d s : Sl} {ys xs : List Int} (hd : OwnI B e k w d ys) (h : Ints k w s xs) (hy : ys ≠ []) :
    ∃ w', (builtin .copy #[t, t'] ty #[] #[.slice d.a d.len d.cap, .slice s.a s.len s.cap]).run P w = .ok (.value (.int .i64 (min xs.length ys.length : Nat))) w' ∧ OwnI B e k w' d (xs.take ys.length ++ ys.drop xs.length) ∧ w.grownBy w' (Value.slice d.a d.len d.cap).ownBlock ∧ w'.heap.size = w.heap.size := by
  have hlen := h.len
  have hown := hd
  rcases hown.2 with ⟨h1, h0⟩ | ⟨g, cap, cur, h1, hB, hg, hnc, hcm, hcs, htk⟩
  · exact absurd (List.length_eq_zero_iff.1 h0) hy
  simp only [Value.slice.injEq] at h1
  obtain ⟨hda, hdl, hdc⟩ := h1
  have hyl : (ys.map (Value.int k)).length = ys.length := by simp
  by_cases hx : xs = []
  · subst hx
    have h0 : s.len = 0 := by simpa using hlen
    refine ⟨w, ?_, by simpa using hd, ⟨rfl, rfl, rfl, Nat.le_refl _, fun _ _ _ => rfl⟩, rfl⟩
    have := run_copy_none (P := P) w t t' ty e d.a s.a d.len d.cap s.len s.cap ht hs (by rw [h0]; exact Nat.zero_min _)
    simp [builtin, this, goInt]
  · obtain ⟨x, hx0⟩ : ∃ x, xs[0]? = some x := by cases xs with
      | nil => exact absurd rfl hx
      | cons x r => exact ⟨x, rfl⟩
    obtain ⟨a, ha, _, _⟩ := h.cell 0 x hx0
    have hmin : (xs.take ys.length).length = Nat.min s.len d.len := by rw [List.length_take, hlen, hdl]; exact Nat.min_comm _ _
    have hcl : ((xs.take ys.length).map (Value.int k)).length = Nat.min s.len d.len := by rw [List.length_map]; exact hmin
    have hle : (xs.take ys.length).length ≤ ys.length := by rw [List.length_take]; omega
    have hcz : cur.size = cap := by simpa using hcs
    have hrun := run_copy_row (P := P) w t t' ty e g 0 d.len d.cap a s.len s.cap cur e ((xs.take ys.length).map (Value.int k)) ht hs hg hcl
      (fun j u hu => ints_news h ha j u (by rw [List.map_take, List.getElem?_take] at hu; split at hu; exact hu; cases hu)) (by rw [List.length_map]; omega) one_ints
    rw [hda, ha]
    generalize hrow : (cur.toList.take 0 ++ (xs.take ys.length).map (Value.int k) ++ cur.toList.drop (0 + ((xs.take ys.length).map (Value.int k)).length)).toArray = row at hrun
    refine ⟨w.setRow g row, by simp only [builtin, Sem.run_bind, hrun, Result.andThen_ok, Sem.run_pure]; simp [goInt, Nat.min_comm], ?_, ⟨rfl, rfl, rfl, by simp, fun i hi hne => setRow_other w g i _ (fun he => hne (by simp [Value.ownBlock, he]))⟩, by simp⟩
    subst hrow
    refine ⟨by simp, .inr ⟨g, cap, _, ?_, hB, setRow_heap w g cur _ e _ hg, ?_, hcm, ?_, ?_⟩⟩
    · rw [hda, hdl, hdc]; simp; omega
    · simp; omega
    · simp; omega
    · have hle2 : ((xs.take ys.length).map (Value.int k)).length ≤ cur.toList.length := by simp; omega
      simp only [List.take_zero, List.nil_append, Nat.zero_add, List.length_map, Nat.mul_one]
      have htk' : cur.toList.take ys.length = ys.map (Value.int k) := by simpa using htk
      apply List.ext_getElem?
      intro j
      rw [List.getElem?_take]
      simp only [List.map_append, List.map_take, List.map_drop, List.length_append, List.length_take, List.length_drop]
      by_cases hj : j < min ys.length xs.length + (ys.length - xs.length)
      · rw [if_pos hj, List.getElem?_append, List.getElem?_append]
        simp only [List.length_take, List.length_map, List.getElem?_take, List.getElem?_drop]
        by_cases hj2 : j < min ys.length xs.length
        · rw [if_pos hj2, if_pos hj2]
        · rw [if_neg hj2, if_neg hj2]
          have e1 : min ys.length xs.length + (j - min ys.length xs.length) = j := by omega
          have e2 : xs.length + (j - min ys.length xs.length) = j := by omega
          rw [e1, e2, ← htk', List.getElem?_take, if_pos (by omega)]
      · rw [if_neg hj]
        symm
        rw [List.getElem?_eq_none]
        simp; omega

/-! elements wider than a cell -/

def flat {α : Type} (f : α → List Value) (l : List α) : List Value := l.flatMap f
def setsL : List Value → Nat → List Value → List Value
  | vs, _, [] => vs
  | vs, i, c :: r => setsL (vs.set i c) (i + 1) r

theorem setsL_length : ∀ (cs vs : List Value) (i : Nat), (setsL vs i cs).length = vs.length
  | [], _, _ => rfl
  | c :: r, vs, i => by unfold setsL; rw [setsL_length r, List.length_set]

theorem setsL_skip : ∀ (cs a b : List Value) (i : Nat), setsL (a ++ b) (a.length + i) cs = a ++ setsL b i cs
  | [], _, _, _ => rfl
  | c :: r, a, b, i => by
    unfold setsL
    rw [List.set_append_right _ _ (by omega), show a.length + i - a.length = i by omega, show a.length + i + 1 = a.length + (i + 1) by omega]
    exact setsL_skip r a (b.set i c) (i + 1)
theorem setsL_all : ∀ (cs a b : List Value), a.length = cs.length → setsL (a ++ b) 0 cs = cs ++ b
  | [], a, b, h => by
    have : a = [] := by simpa using h
    subst this; rfl
  | c :: r, [], b, h => by simp at h
  | c :: r, x :: a, b, h => by
    unfold setsL
    have := setsL_skip r [c] (a ++ b) 0
    simp only [List.length_cons, List.length_nil, Nat.zero_add, Nat.add_zero, List.cons_append, List.nil_append, List.set_cons_zero] at this ⊢
    rw [this, setsL_all r a b (by simpa using h)]

section
variable {α : Type} {f : α → List Value} {n : Nat} (hf : ∀ x, (f x).length = n)
theorem flat_cons (x : α) (l : List α) : flat f (x :: l) = f x ++ flat f l := rfl
theorem flat_app (l l' : List α) : flat f (l ++ l') = flat f l ++ flat f l' := by simp [flat]
theorem flat_one (x : α) : flat f [x] = f x := by simp [flat]
include hf
theorem flat_length : ∀ l : List α, (flat f l).length = l.length * n
  | [] => by simp [flat]
  | x :: l => by rw [flat_cons, List.length_append, hf, flat_length l, List.length_cons, Nat.add_mul]; omega
theorem flat_get : ∀ {l : List α} {i : Nat} {x : α} {j : Nat}, l[i]? = some x → j < n → (flat f l)[i * n + j]? = (f x)[j]?
  | [], i, x, j, h, _ => by simp at h
  | y :: l, 0, x, j, h, hj => by
    simp at h; subst h
    rw [flat_cons, List.getElem?_append_left (by rw [hf]; omega)]; simp
  | y :: l, i + 1, x, j, h, hj => by
    rw [flat_cons, List.getElem?_append_right (by rw [hf, Nat.add_mul]; omega), hf, show (i + 1) * n + j - n = i * n + j by rw [Nat.add_mul]; omega]
    exact flat_get (by simpa using h) hj
theorem flat_set : ∀ {l : List α} {i : Nat} {y : α}, i < l.length → flat f (l.set i y) = setsL (flat f l) (i * n) (f y)
  | [], i, y, h => by simp at h
  | x :: l, 0, y, _ => by
    rw [List.set_cons_zero, flat_cons, flat_cons, Nat.zero_mul, setsL_all _ _ _ (by rw [hf, hf])]
  | x :: l, i + 1, y, h => by
    rw [List.set_cons_succ, flat_cons, flat_cons, show (i + 1) * n = (f x).length + i * n by rw [hf, Nat.add_mul]; omega, setsL_skip, flat_set (by simpa using h)]
end

theorem Sep.rowSets {B : Nat} {e : TypeId} {size : Nat} {s : Sl} {n : Nat} {q : Addr} (hq : s.a = some q) (k : Nat) : ∀ (cs : List Value) (i j : Nat) {w : World} {l : List Asn} {vs : List Value}, l[k]? = some (rowA e size s n vs) → Sep B w l → j + i + cs.length ≤ vs.length →
    Sep B (setCells (q.add j) cs i w) (l.set k (rowA e size s n (setsL vs (j + i) cs))) ∧ Below B w (setCells (q.add j) cs i w)
  | [], i, j, w, l, vs, hk, h, _ => by
    refine ⟨?_, Below.refl _ _⟩
    have : l.set k (rowA e size s n (setsL vs (j + i) [])) = l := by
      obtain ⟨hlt, he⟩ := List.getElem?_eq_some_iff.1 hk
      simp only [setsL]
      rw [← he]; exact List.set_getElem_self hlt
    rw [this]; exact h
  | c :: r, i, j, w, l, vs, hk, h, hl => by
    have hlt := (List.getElem?_eq_some_iff.1 hk).1
    obtain ⟨h1, hb1⟩ := h.rowSet k hk hq (j := j + i) (by simp at hl; omega) c
    obtain ⟨h2, hb2⟩ := Sep.rowSets (e := e) (size := size) (n := n) hq k r (i + 1) j (w := w.setCell (q.add (j + i)) c) (l := l.set k (rowA e size s n (vs.set (j + i) c))) (vs := vs.set (j + i) c) (by simp [hlt]) h1 (by simp at hl ⊢; omega)
    unfold setCells setsL
    rw [add_add]
    rw [List.set_set] at h2
    exact ⟨h2, hb1.trans hb2⟩

/-- element number i of a row is written -/
theorem Sep.rowEl {B : Nat} {w : World} {l : List Asn} (k : Nat) {e : TypeId} {size : Nat} {s : Sl} {n : Nat} {α : Type} {f : α → List Value} (hf : ∀ x, (f x).length = size) {xs : List α} (hk : l[k]? = some (rowA e size s n (flat f xs))) (h : Sep B w l) {q : Addr} (hq : s.a = some q) {i : Nat} (hi : i < xs.length) (y : α) :
    (∀ j, j < size → Wr w ((q.add (i * size)).add j)) ∧ Sep B (setCells (q.add (i * size)) (f y) 0 w) (l.set k (rowA e size s n (flat f (xs.set i y)))) ∧ Below B w (setCells (q.add (i * size)) (f y) 0 w) := by
  have hlen := flat_length hf xs
  have hin : i * size + size ≤ (flat f xs).length := by
    rw [hlen]
    have := Nat.mul_le_mul_right size (show i + 1 ≤ xs.length by omega)
    rw [Nat.add_mul] at this; omega
  refine ⟨fun j hj => by rw [add_add]; exact h.rowWr k hk hq (by omega), ?_⟩
  have := h.rowSets (j := i * size) hq k (f y) 0 hk (by rw [hf]; omega)
  rw [Nat.add_zero, ← flat_set hf hi] at this
  exact this

/-- element number i of a row is read -/
theorem Sep.rowGet {B : Nat} {w : World} {l : List Asn} (k : Nat) {e : TypeId} {size : Nat} (hz : 0 < size) {s : Sl} {n : Nat} {α : Type} {f : α → List Value} (hf : ∀ x, (f x).length = size) {xs : List α} (hk : l[k]? = some (rowA e size s n (flat f xs))) (h : Sep B w l) {i : Nat} {x : α} (hi : xs[i]? = some x) :
    ∃ q, s.a = some q ∧ ∀ (j : Nat) (u : Value), (f x)[j]? = some u → w.cell? ((q.add (i * size)).add j) = some u := by
  have hlt := (List.getElem?_eq_some_iff.1 hi).1
  have hlen := flat_length hf xs
  have hin : i * size < (flat f xs).length := by
    rw [hlen]; exact Nat.mul_lt_mul_of_pos_right hlt hz
  obtain ⟨q, hq, hc⟩ := h.rowCell k hk hin
  refine ⟨q, hq, fun j u hu => ?_⟩
  have hj : j < size := by rw [← hf x]; exact (List.getElem?_eq_some_iff.1 hu).1
  rw [add_add]
  exact hc _ u (by rw [flat_get hf hi hj]; exact hu)

/-- all of a slice behind a nil row -/
theorem twin_go {P : Program} {t ty e : TypeId} {i : TypeInfo} {z : Value} {size bytes : Nat} (ht : P.underlying t = some (.slice e)) (hi : P.info? e = some i) (hz : i.zero = some z) (hsize : i.size = size) (hby : i.bytes = bytes)
    (hzs : z.cells.size = size) (hsz : 0 < size) {w : World} {s : Sl} {m : Nat} {news : List Value} (hlen : s.len = m) (hl : news.length = m * size) (hnews : ∀ a, s.a = some a → ∀ j u, news[j]? = some u → w.cell? (a.add j) = some u) (hnone : s.a = none → m = 0) (ho : ∀ u ∈ news, u.oneCell' = true)
    (hm : m ≤ maxLen) (hb : m * bytes ≤ 140737488355328) :
    ∃ s' : Sl, ∃ w', (builtin .append #[t, t] ty #[] #[.slice none 0 0, .slice s.a s.len s.cap]).run P w = .ok (.value (.slice s'.a s'.len s'.cap)) w' ∧ s'.len = m ∧
      w'.ownsRow w.heap.size e size (.slice s'.a s'.len s'.cap) m news ∧ Below w.heap.size w w' := by
  cases ha : s.a with
  | none =>
    obtain rfl := hnone ha
    have : news = [] := List.eq_nil_of_length_eq_zero (by simpa using hl)
    subst this
    refine ⟨⟨none, 0, 0⟩, w, ?_, rfl, World.ownsRow_nil _ _ _ _, Below.refl _ _⟩
    simp [builtin, Builtin.append_, run_underlying ht, run_sizeOf' hi, hsize, Builtin.lenOf, Builtin.firstCells, hlen]
  | some a =>
    obtain ⟨v', w', hr, hown, hg, _⟩ := run_append_own (P := P) w w.heap.size t ty e i z size bytes ht hi hz hsize hby hzs hsz _ 0 [] (World.ownsRow_nil _ _ _ _) a m s.cap news hl (hnews a ha) ho (by simpa using hm) (by simpa using hb) (Nat.le_refl _)
    rw [Nat.zero_add, List.nil_append] at hown
    have hv : ∃ s' : Sl, v' = .slice s'.a s'.len s'.cap ∧ s'.len = m := by
      rcases hown.2 with ⟨rfl, h0⟩ | ⟨g, cap, cur, rfl, _⟩
      · exact ⟨⟨none, 0, 0⟩, rfl, h0.symm⟩
      · exact ⟨⟨some ⟨g, 0, none⟩, m, cap⟩, rfl, rfl⟩
    obtain ⟨s', rfl, hl'⟩ := hv
    rw [hlen]
    exact ⟨s', w', by simp [builtin, hr], hl', hown, (Below.refl _ w).grown hg (Nat.le_refl _) fun k hk => by simp [Value.ownBlock] at hk⟩

end Go.Lf

/-
  The frame of a law's proof whose row lists package variables.
-/
namespace Go.Lf
open Go Go.RowKit Go.ChangeShapes

theorem lawLaid {H : Type} {enc : TypeId × Value → H} {C : Checked} {os : Os} {f : FuncId} {fn : Func} {s : OpenSpec} {cs : ChangeSpec} {F : Stop.Interp} {conds : List PathCond} {laid : List (String × DataW Unit)} {tb : TypeId} {k : Nat} (own : ownKnob C.prog.godebug = none) (started : os.Started)
    (hi : C.prog.inits.idxOf? f = none) (hf : C.prog.funcs[f]? = some fn)
    (wit : ∃ (w : World) (tape : Tape) (i : Input), w.os = os ∧ (w.forCall tape i).Shaped C.prog ∧ i.vars = [] ∧ Input.okWide C.prog (w.forCall tape i) .any w.heap.size f i ∧
      s.preRow enc C.prog fn conds false laid (w.forCall tape i).memory i.args ∧ ({} : Assume).holds C.prog (lone (Frame.enter C.prog f i.args .normal) [] (w.forCall tape i)))
    (hl : laidOutB C.prog = true) (hts : (fn.params.toList.all fun t => C.prog.readableRec t && Nat.blt t C.prog.types.size) = true) (hr : fn.resultTypes = #[tb]) (hb : C.prog.underlying tb = some .bool) (hat : s.at F = cs) (hsv : s.vars = []) (hv : cs.vars = [])
    (hk : fn.params.toList.length = k) (hs : ∀ ds : List (DataW H), ds.length = k → cs.fn H ds = { results := [.lit (.bool true)], args := ds })
    (walk : ∀ (W : World) (args : Array Value) (ds : List (DataW H)) (p : List MemPlace), DataW.TrodAll enc C.prog W 0 (fun _ => true) true fn.params.toList args.toList ds p →
      (∃ base, ∀ (j : Nat) (t : TypeId) (v : Value), fn.params[j]? = some t → args[j]? = some v → Value.okWide C.prog W Reach.any base t v) → laidMetH C.prog laid W →
      (∀ kk, s.cond = some kk → kk H (ds ++ []) = true) →
      CallsV C.prog f args W fun v W' => v = .bool true ∧ Below W.heap.size W W') :
    ReturnsInHanded {} C os f .any (s.preRow enc C.prog fn conds false laid) ((s.at F).post enc C.prog fn false true false false) := by
  refine returnsInHanded_of_row (C := C) own started hi hf wit ?_
  intro W base args ds gs before hval hW _ hcond _ hL _ _
  rw [hat]
  rw [hsv] at hW
  have hW' := hW
  obtain ⟨p, q, hA, hV, hp, hfz, hnd⟩ := hW
  obtain ⟨rfl, rfl⟩ := trodVars_none hV
  simp only [List.append_nil] at hp
  subst hp
  rw [← hv] at hW'
  refine Calls.mono (walk W args ds before hA ⟨base, hval⟩ hL hcond) ?_
  rintro e W' ⟨v, rfl, rfl, hB⟩
  refine ⟨_, rfl, ds, [], before, [], before, [], hW', ?_, ?_, ?_, hB.frame _, fun h => by cases h⟩
  · rw [List.append_nil, hs ds (by rw [← hk]; exact (trodAll_length hA).2), hr]
    exact trodAll_mk1 (shut_bool hb true)
  · rw [List.append_nil, hs ds (by rw [← hk]; exact (trodAll_length hA).2)]
    exact trodAll_below hl hB hts hA
  · rw [List.append_nil, hs ds (by rw [← hk]; exact (trodAll_length hA).2), hv]
    rfl

end Go.Lf
