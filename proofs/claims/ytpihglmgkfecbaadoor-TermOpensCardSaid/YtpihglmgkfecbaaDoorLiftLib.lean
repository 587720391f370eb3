/-
  Small laws for proofs over the lifted statements; the frame of a law's proof; slices of numbers; memory of the call's own.
-/
import Derived.Test.YtpihglmgkfecbaaDoorLift
import Derived.ProofKit
import Derived.OpenShut
import Derived.ChangeCalls
namespace Go.Lf
open Go Go.RowKit Go.ChangeShapes

/-! steps -/

theorem cond_c {c : Bool} {A B : Prop} (ht : c = true → A) (hf : c = false → B) : cond c A B := by
  cases c
  · exact hf rfl
  · exact ht rfl
theorem cond_d {p : Prop} [Decidable p] {A B : Prop} (ht : p → A) (hf : ¬ p → B) : cond (decide p) A B :=
  cond_c (fun h => ht (of_decide_eq_true h)) (fun h => hf (of_decide_eq_false h))
theorem cond_e {a b : Int} {A B : Prop} (ht : a = b → A) (hf : a ≠ b → B) : cond (a == b) A B :=
  cond_c (fun h => ht (by simpa using h)) (fun h => hf (by simpa using h))
theorem cond_n {a b : Int} {A B : Prop} (ht : a ≠ b → A) (hf : a = b → B) : cond (a != b) A B :=
  cond_c (fun h => ht (by simpa using h)) (fun h => hf (by simpa using h))
theorem cond_not {c : Bool} {A B : Prop} (hf : c = false → A) (ht : c = true → B) : cond (!c) A B := by
  cases c
  · exact hf rfl
  · exact ht rfl
theorem cond_t {c : Bool} {A B : Prop} (hc : c = true) (h : A) : cond c A B := by subst hc; exact h
theorem cond_f' {c : Bool} {A B : Prop} (hc : c = false) (h : B) : cond c A B := by subst hc; exact h

theorem w64 {n : Int} (h : -9223372036854775808 ≤ n ∧ n ≤ 9223372036854775807) : IntKind.i64.wrap n = n := by
  rw [IntKind.wrap_i64]; omega
theorem tmod_nn {a b : Int} (h : 0 ≤ a) : Int.tmod a b = a % b := Int.tmod_eq_emod_of_nonneg h
theorem tdiv_nn {a b : Int} (h : 0 ≤ a) : Int.tdiv a b = a / b := Int.tdiv_eq_ediv_of_nonneg h

theorem add_add (p : Addr) (i j : Nat) : (p.add i).add j = p.add (i + j) := by
  unfold Addr.add
  by_cases hi : i = 0 <;> by_cases hj : j = 0 <;> simp_all [Nat.add_assoc]
theorem add_zero (p : Addr) : p.add 0 = p := by simp [Addr.add]
theorem add_block (p : Addr) (i : Nat) : (p.add i).block = p.block := by unfold Addr.add; split <;> rfl

/-! the frame of a law's proof -/

theorem trodAll_below {H : Type} {enc : TypeId × Value → H} {P : Program} (hl : laidOutB P = true) {W W' : World} (hb : Below W.heap.size W W') : ∀ {ts : List TypeId} {vs : List Value} {ds : List (DataW H)} {ps : List MemPlace},
    (ts.all fun t => P.readableRec t && Nat.blt t P.types.size) = true → DataW.TrodAll enc P W 0 (fun _ => true) true ts vs ds ps →
    DataW.TrodAll enc P W' 0 (fun b => decide (b < W.heap.size)) true ts vs ds ps
  | [], vs, ds, ps, _, h => by
    obtain ⟨rfl, rfl, rfl⟩ := trodAll_nil h
    exact trodAll_mk0
  | t :: ts, vs, ds, ps, ht, h => by
    simp only [List.all_cons, Bool.and_eq_true] at ht
    have hlt := h.lt
    obtain ⟨v, vs', d, ds', p, q, rfl, rfl, rfl, h1, h2⟩ := trodAll_cons h
    exact trodAll_cons_mk (Below.trod hl ht.1.1 (by simpa [Nat.blt_eq] using ht.1.2) h1 hb (fun x hx => hlt x (List.mem_append_left _ hx))) (trodAll_below hl hb ht.2 h2)

theorem lawLifted {H : Type} {enc : TypeId × Value → H} {C : Checked} {os : Os} {f : FuncId} {fn : Func} {s : ChangeSpec} {conds : List PathCond} {tb : TypeId} {k : Nat} (own : ownKnob C.prog.godebug = none) (started : os.Started)
    (hi : C.prog.inits.idxOf? f = none) (hf : C.prog.funcs[f]? = some fn)
    (wit : ∃ (w : World) (tape : Tape) (i : Input), w.os = os ∧ World.Shaped C.prog (w.forCall tape i) ∧ i.vars = [] ∧ Input.okWide C.prog (w.forCall tape i) Reach.any w.heap.size f i ∧
      ChangeSpec.pre6 enc C.prog fn s conds false (w.forCall tape i).memory i.args ∧ ({} : Assume).holds C.prog (lone (Frame.enter C.prog f i.args CallKind.normal) [] (w.forCall tape i)))
    (hl : laidOutB C.prog = true) (hts : (fn.params.toList.all fun t => C.prog.readableRec t && Nat.blt t C.prog.types.size) = true) (hr : fn.resultTypes = #[tb]) (hb : C.prog.underlying tb = some .bool) (hv : s.vars = [])
    (hk : fn.params.toList.length = k) (hs : ∀ ds : List (DataW H), ds.length = k → s.fn H ds = { results := [.lit (.bool true)], args := ds })
    (walk : ∀ (W : World) (args : Array Value) (ds : List (DataW H)) (p : List MemPlace), DataW.TrodAll enc C.prog W 0 (fun _ => true) true fn.params.toList args.toList ds p →
      (∃ base, ∀ (j : Nat) (t : TypeId) (v : Value), fn.params[j]? = some t → args[j]? = some v → Value.okWide C.prog W Reach.any base t v) →
      CallsV C.prog f args W fun v W' => v = .bool true ∧ Below W.heap.size W W') :
    ReturnsInHanded {} C os f .any (s.pre6 enc C.prog fn conds false) (s.post enc C.prog fn false true false false) := by
  refine returnsInHanded_of_change own started hi hf wit ?_
  intro W base args ds gs before hval hW _ _
  have hW' := hW
  obtain ⟨p, q, hA, hV, hp, hfz, hnd⟩ := hW
  rw [hv] at hV
  obtain ⟨rfl, rfl⟩ := trodVars_none hV
  simp only [List.append_nil] at hp
  subst hp
  refine Calls.mono (walk W args ds before hA ⟨base, hval⟩) ?_
  rintro e W' ⟨v, rfl, rfl, hB⟩
  refine ⟨_, rfl, ds, [], before, [], before, [], hW', ?_, ?_, ?_, hB.frame _, fun h => by cases h⟩
  · rw [List.append_nil, hs ds (by rw [← hk]; exact (trodAll_length hA).2), hr]
    exact trodAll_mk1 (shut_bool hb true)
  · rw [List.append_nil, hs ds (by rw [← hk]; exact (trodAll_length hA).2)]
    exact trodAll_below hl hB hts hA
  · rw [List.append_nil, hs ds (by rw [← hk]; exact (trodAll_length hA).2), hv]
    rfl

/-! slices of numbers -/

/-- The slice reads as these numbers. -/
structure Ints (k : IntKind) (w : World) (s : Sl) (xs : List Int) : Prop where
  len : s.len = xs.length
  small : s.len ≤ 9223372036854775807
  cell : ∀ (i : Nat) (x : Int), xs[i]? = some x → ∃ p, s.a = some p ∧ p.block < w.heap.size ∧ w.cell? (p.add i) = some (.int k x)

theorem Ints.nil {k : IntKind} {w : World} {a : Option Addr} {c : Nat} : Ints k w ⟨a, 0, c⟩ [] := ⟨rfl, by simp, fun i x h => by simp at h⟩

/-- what was below some block is as it was -/
theorem Ints.below {k : IntKind} {B : Nat} {w w' : World} {s : Sl} {xs : List Int} (h : Ints k w s xs) (hb : Below B w w') (hB : ∀ p, s.a = some p → p.block < B) : Ints k w' s xs := by
  refine ⟨h.len, h.small, fun i x hx => ?_⟩
  obtain ⟨p, hp, hlt, hc⟩ := h.cell i x hx
  refine ⟨p, hp, Nat.lt_of_lt_of_le hlt hb.size, ?_⟩
  rw [hb.cell (by rw [add_block]; exact hB p hp)]
  exact hc

/-- what is read stays while nothing that was there turns -/
theorem Ints.keep {k : IntKind} {w w' : World} {s : Sl} {xs : List Int} (h : Ints k w s xs) (hb : Below w.heap.size w w') : Ints k w' s xs := by
  refine ⟨h.len, h.small, fun i x hx => ?_⟩
  obtain ⟨p, hp, hlt, hc⟩ := h.cell i x hx
  refine ⟨p, hp, Nat.lt_of_lt_of_le hlt hb.size, ?_⟩
  rw [hb.cell (by rw [add_block]; exact hlt)]
  exact hc

/-- the same at every world with the same memory -/
theorem Ints.drew {k : IntKind} {w : World} {s : Sl} {xs : List Int} (h : Ints k w s xs) : Ints k w.drew s xs := ⟨h.len, h.small, h.cell⟩

/-- the i-th -/
theorem Ints.get {k : IntKind} {w : World} {s : Sl} {xs : List Int} (h : Ints k w s xs) {i : Int} (h0 : 0 ≤ i) (h1 : i < s.len) :
    ∃ p, s.a = some p ∧ w.cell? (p.add i.toNat) = some (.int k (xs[i.toNat]?.getD 0)) := by
  have hlt : i.toNat < xs.length := by have := h.len; omega
  obtain ⟨p, hp, _, hc⟩ := h.cell i.toNat _ (List.getElem?_eq_getElem hlt)
  exact ⟨p, hp, by rw [hc, List.getElem?_eq_getElem hlt]; rfl⟩

theorem below_drew {w : World} : Below w.heap.size w w.drew := (Below.refl _ _).drew

/-! memory of the call's own -/

def Sl.val (s : Sl) : Value := .slice s.a s.len s.cap

theorem grown_trans {w w1 w2 : World} {row : Option Nat} (h : w.grownBy w1 row) (h' : w1.grownBy w2 row) : w.grownBy w2 row :=
  ⟨h'.os.trans h.os, h'.tape.trans h.tape, h'.output.trans h.output, Nat.le_trans h.size h'.size, fun k hk hr => (h'.block k (Nat.lt_of_lt_of_le hk h.size) hr).trans (h.block k hk hr)⟩

/-- One element more behind a row of the call's own. -/
theorem append_new {P : Program} {t ty e : TypeId} {i : TypeInfo} {z : Value} {size bytes : Nat} (ht : P.underlying t = some (.slice e)) (hi : P.info? e = some i) (hz : i.zero = some z) (hsize : i.size = size) (hby : i.bytes = bytes)
    (hzs : z.cells.size = size) (hsz : 0 < size) {B : Nat} {w : World} {s : Sl} {n : Nat} {xs : List Value} (h : w.ownsRow B e size (.slice s.a s.len s.cap) n xs) {news : List Value} (hl : news.length = size) (ho : ∀ u ∈ news, u.oneCell' = true)
    (hm : n + 1 ≤ maxLen) (hb : (n + 1) * bytes ≤ 140737488355328) (hB : B ≤ w.heap.size) {cells : Array Value} (hc : cells = news.toArray) :
    ∃ s' : Sl, ∃ w', (builtin .append #[t, t] ty #[] #[.slice s.a s.len s.cap, .slice (some (newA w)) 1 1]).run P (w.alloc (.cells cells e)) = .ok (.value (.slice s'.a s'.len s'.cap)) w' ∧ s'.len = n + 1 ∧
      w'.ownsRow B e size (.slice s'.a s'.len s'.cap) (n + 1) (xs ++ news) ∧ w.grownBy w' (Value.slice s.a s.len s.cap).ownBlock ∧ Below B w w' := by
  subst hc
  have hnews : ∀ j u, news[j]? = some u → (w.alloc (.cells news.toArray e)).cell? ((newA w).add j) = some u := by
    intro j u hj
    have : (newA w).add j = ⟨w.heap.size, j, none⟩ := by unfold Addr.add newA; split <;> simp_all
    rw [this, World.cell?_alloc_new]
    simpa using hj
  obtain ⟨v', w', hr, hown, hg, _⟩ := run_append_own (P := P) (w.alloc (.cells news.toArray e)) B t ty e i z size bytes ht hi hz hsize hby hzs hsz _ n xs (h.alloc _) (newA w) 1 1 news (by simpa using hl) hnews ho hm hb (by simp; omega)
  have hv : ∃ s' : Sl, v' = .slice s'.a s'.len s'.cap ∧ s'.len = n + 1 := by
    rcases hown.2 with ⟨rfl, h0⟩ | ⟨g, cap, cur, rfl, _⟩
    · omega
    · exact ⟨⟨some ⟨g, 0, none⟩, n + 1, cap⟩, rfl, rfl⟩
  obtain ⟨s', rfl, hlen⟩ := hv
  have hg' : w.grownBy w' (Value.slice s.a s.len s.cap).ownBlock := grown_trans (World.grownBy_alloc w _ _) hg
  refine ⟨s', w', by simp [builtin, hr], hlen, hown, hg', ?_⟩
  refine (Below.refl B w).grown hg' hB fun k hk => (h.lt k hk).1

/-- Numbers in a row of the call's own. -/
def OwnI (B : Nat) (e : TypeId) (k : IntKind) (w : World) (s : Sl) (xs : List Int) : Prop := w.ownsRow B e 1 (.slice s.a s.len s.cap) xs.length (xs.map (Value.int k))

theorem OwnI.nil {B : Nat} {e : TypeId} {k : IntKind} {w : World} : OwnI B e k w ⟨none, 0, 0⟩ [] := World.ownsRow_nil _ _ _ _

theorem OwnI.len {B : Nat} {e : TypeId} {k : IntKind} {w : World} {s : Sl} {xs : List Int} (h : OwnI B e k w s xs) : s.len = xs.length := by
  rcases h.2 with ⟨h1, h0⟩ | ⟨g, cap, cur, h1, _⟩
  · cases s; simp only [Value.slice.injEq] at h1; simp only [h1.2.1, h0]
  · cases s; simp only [Value.slice.injEq] at h1; exact h1.2.1

theorem OwnI.ints {B : Nat} {e : TypeId} {k : IntKind} {w : World} {s : Sl} {xs : List Int} (h : OwnI B e k w s xs) (hs : xs.length ≤ 9223372036854775807) : Ints k w s xs := by
  refine ⟨h.len, by rw [h.len]; exact hs, fun i x hx => ?_⟩
  rcases h.2 with ⟨_, h0⟩ | ⟨g, cap, cur, h1, hB, hg, _, _, _, ht⟩
  · rw [List.length_eq_zero_iff.1 h0] at hx; simp at hx
  · have hob : (Value.slice s.a s.len s.cap).ownBlock = some g := by rw [h1]; rfl
    simp only [Value.slice.injEq] at h1
    refine ⟨⟨g, 0, none⟩, h1.1, (Array.getElem?_eq_some_iff.1 hg).1, ?_⟩
    exact World.ownsRow.cells h hob i (.int k x) (by simp [hx])

theorem OwnI.own {B : Nat} {e : TypeId} {k : IntKind} {w : World} {s : Sl} {xs : List Int} (h : OwnI B e k w s xs) : ∀ p, s.a = some p → B ≤ p.block ∧ p.block < w.heap.size := by
  intro p hp
  exact h.lt p.block (by rw [hp]; rfl)

theorem append_int {P : Program} {t ty e : TypeId} {i : TypeInfo} {z : Value} {bytes : Nat} {k : IntKind} (ht : P.underlying t = some (.slice e)) (hi : P.info? e = some i) (hz : i.zero = some z) (hsize : i.size = 1) (hby : i.bytes = bytes) (hzs : z.cells.size = 1)
    {B : Nat} {w : World} {s : Sl} {xs : List Int} (h : OwnI B e k w s xs) {x : Int} (hm : xs.length + 1 ≤ maxLen) (hb : (xs.length + 1) * bytes ≤ 140737488355328) (hB : B ≤ w.heap.size) :
    ∃ s' : Sl, ∃ w', (builtin .append #[t, t] ty #[] #[.slice s.a s.len s.cap, .slice (some (newA w)) 1 1]).run P (w.alloc (.cells #[.int k x] e)) = .ok (.value (.slice s'.a s'.len s'.cap)) w' ∧
      OwnI B e k w' s' (xs ++ [x]) ∧ w.grownBy w' (Value.slice s.a s.len s.cap).ownBlock ∧ Below B w w' := by
  obtain ⟨s', w', hr, _, hown, hg, hb'⟩ := append_new (ty := ty) ht hi hz hsize hby hzs (by omega) h (news := [.int k x]) rfl (by simp [Value.oneCell']) hm hb hB (cells := #[.int k x]) rfl
  refine ⟨s', w', hr, ?_, hg, hb'⟩
  unfold OwnI
  simpa using hown

/-! worlds with the same memory -/

structure Same (w w' : World) : Prop where
  heap : w'.heap = w.heap
  os : w'.os = w.os
  tape : w'.tape = w.tape
  output : w'.output = w.output

theorem Same.refl (w : World) : Same w w := ⟨rfl, rfl, rfl, rfl⟩
theorem Same.of_eq {w w' : World} (h : w = w') : Same w w' := h ▸ Same.refl w
theorem Same.trans {a b c : World} (h : Same a b) (k : Same b c) : Same a c := ⟨k.heap.trans h.heap, k.os.trans h.os, k.tape.trans h.tape, k.output.trans h.output⟩
theorem Same.drew (w : World) : Same w w.drew := ⟨rfl, rfl, rfl, rfl⟩
theorem Same.drew' {a w : World} (h : Same a w) : Same a w.drew := h.trans (Same.drew w)
theorem Same.symm {a b : World} (h : Same a b) : Same b a := ⟨h.heap.symm, h.os.symm, h.tape.symm, h.output.symm⟩
theorem Same.below {w w' : World} (h : Same w w') (B : Nat) : Below B w w' := ⟨h.os, h.tape, h.output, by rw [h.heap]; exact Nat.le_refl _, fun _ _ => by rw [h.heap]⟩
theorem Same.cell {w w' : World} (h : Same w w') (p : Addr) : w'.cell? p = w.cell? p := by unfold World.cell?; rw [h.heap]
theorem Same.size {w w' : World} (h : Same w w') : w'.heap.size = w.heap.size := by rw [h.heap]

theorem Ints.same {k : IntKind} {w w' : World} {s : Sl} {xs : List Int} (h : Ints k w s xs) (hs : Same w w') : Ints k w' s xs :=
  ⟨h.len, h.small, fun i x hx => by obtain ⟨p, hp, hlt, hc⟩ := h.cell i x hx; exact ⟨p, hp, by rw [hs.size]; exact hlt, by rw [hs.cell]; exact hc⟩⟩

theorem Ints.here {k : IntKind} {w : World} {s : Sl} {xs : List Int} (h : Ints k w s xs) {p : Addr} (hp : s.a = some p) (hx : xs ≠ []) : p.block < w.heap.size := by
  cases xs with
  | nil => exact absurd rfl hx
  | cons x xs => obtain ⟨q, hq, hlt, _⟩ := h.cell 0 x rfl; rw [hp] at hq; obtain rfl := Option.some.inj hq; exact hlt

/-- A slice of numbers that came in. -/
theorem ints_of_trod {H : Type} {enc : TypeId × Value → H} {P : Program} {w : World} {base : Nat} {t e : TypeId} {k : IntKind} {v : Value} {d : DataW H} {ps : List MemPlace} {B : Nat} {r : Reach} (ht : P.underlying t = some (.slice e)) (he : P.underlying e = some (.int k)) (hc : P.cellsOf e = 1)
    (hv : Value.okWide P w r B t v) (h : DataW.Trod enc P w base (fun _ => true) true t v d ps) : ∃ (s : Sl) (xs : List Int), v = .slice s.a s.len s.cap ∧ Ints k w s xs ∧ ∀ x ∈ xs, (Lit.int k x).wf = true := by
  obtain ⟨a, len, cap, rfl⟩ := WideShapes.okWide_slice ht hv
  obtain ⟨fuel, hf⟩ := h
  rcases open_ints ht he hc hf with ⟨hcs, _⟩ | ⟨a', len', cap', zs, hcs, _, hl, hm, hz, _, hcell, hwf⟩
  · simp [Value.cells] at hcs
    obtain ⟨rfl, rfl, rfl⟩ := hcs
    exact ⟨⟨none, 0, 0⟩, [], rfl, Ints.nil, by simp⟩
  · simp [Value.cells] at hcs
    obtain ⟨rfl, rfl, rfl⟩ := hcs
    simp only [if_true] at hz
    refine ⟨⟨some a', len, cap⟩, zs.take len, rfl, ⟨by simp; omega, by simp only; unfold maxLen at hm; omega, fun i x hx => ?_⟩, fun x hx => hwf x (List.mem_of_mem_take hx)⟩
    have hi : i < len := by have := (List.getElem?_eq_some_iff.1 hx).1; simp at this; omega
    rw [List.getElem?_take, if_pos hi] at hx
    have hcx := hcell i (by omega)
    have : zs.getD i 0 = x := by simp [List.getD, hx]
    rw [this] at hcx
    refine ⟨a', rfl, ?_, hcx⟩
    have := World.block_lt_of_cell? w _ hcx
    rwa [add_block] at this

/-- All of a slice behind an empty one: memory of the call's own. -/
theorem append_all {P : Program} {t ty e : TypeId} {i : TypeInfo} {z : Value} {bytes : Nat} {k : IntKind} (ht : P.underlying t = some (.slice e)) (hi : P.info? e = some i) (hz : i.zero = some z) (hsize : i.size = 1) (hby : i.bytes = bytes) (hzs : z.cells.size = 1)
    {w : World} {s : Sl} {xs : List Int} (h : Ints k w s xs) (hm : xs.length ≤ maxLen) (hb : xs.length * bytes ≤ 140737488355328) :
    ∃ s' : Sl, ∃ w', (builtin .append #[t, t] ty #[] #[.slice none 0 0, .slice s.a s.len s.cap]).run P w = .ok (.value (.slice s'.a s'.len s'.cap)) w' ∧ OwnI w.heap.size e k w' s' xs ∧ Below w.heap.size w w' := by
  have hlen := h.len
  cases ha : s.a with
  | none =>
    have hx : xs = [] := by
      cases xs with
      | nil => rfl
      | cons x xs => obtain ⟨q, hq, _⟩ := h.cell 0 x rfl; rw [ha] at hq; cases hq
    subst hx
    have h0 : s.len = 0 := by simpa using hlen
    refine ⟨⟨none, 0, 0⟩, w, ?_, OwnI.nil, Below.refl _ _⟩
    simp [builtin, Builtin.append_, run_underlying ht, run_sizeOf' hi, hsize, Builtin.lenOf, Builtin.firstCells, h0]
  | some a =>
    have hnews : ∀ j u, (xs.map (Value.int k))[j]? = some u → w.cell? (a.add j) = some u := by
      intro j u hj
      simp only [List.getElem?_map, Option.map_eq_some_iff] at hj
      obtain ⟨x, hx, rfl⟩ := hj
      obtain ⟨q, hq, _, hc⟩ := h.cell j x hx
      rw [ha] at hq
      obtain rfl := Option.some.inj hq
      exact hc
    obtain ⟨v', w', hr, hown, hg, hn⟩ := run_append_own (P := P) w w.heap.size t ty e i z 1 bytes ht hi hz hsize hby hzs (by omega) _ 0 [] (World.ownsRow_nil _ _ _ _) a s.len s.cap (xs.map (Value.int k)) (by simp [hlen]) hnews
      (by intro u hu; simp at hu; obtain ⟨x, _, rfl⟩ := hu; rfl) (by rw [hlen]; simpa using hm) (by rw [hlen]; simpa using hb) (Nat.le_refl _)
    have hv : ∃ s' : Sl, v' = .slice s'.a s'.len s'.cap := by
      rcases hown.2 with ⟨rfl, h0⟩ | ⟨g, cap, cur, rfl, _⟩
      · exact ⟨⟨none, 0, 0⟩, rfl⟩
      · exact ⟨⟨some ⟨g, 0, none⟩, _, cap⟩, rfl⟩
    obtain ⟨s', rfl⟩ := hv
    refine ⟨s', w', by simp [builtin, hr], ?_, (Below.refl _ w).grown hg (Nat.le_refl _) fun k hk => by simp [Value.ownBlock] at hk⟩
    unfold OwnI
    simpa [hlen] using hown

end Go.Lf
