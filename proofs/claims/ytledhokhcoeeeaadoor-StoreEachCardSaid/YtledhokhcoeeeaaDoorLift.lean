/-
  The lifting: a function's code, read as a statement on typed values and the world, without its slots; and that the statement suffices for the call.
-/
import Derived.WalkKit
import Derived.OrdersHeld
import Derived.Deep.RegionHeld3
import Derived.Deep.Quiet
set_option linter.unusedVariables false
namespace Go.Lf
open Go

/-! frames: what is known of the slots -/

abbrev Fr := List (Nat × Value)

def fget : Fr → Nat → Option Value
  | [], _ => none
  | (s, v) :: r, t => cond (Nat.beq s t) (some v) (fget r t)

def evo (fr : Fr) : Operand → Option Value
  | .tmp t => fget fr t
  | .const v => some v
  | .global g => some (.pointer (some ⟨g, 0, none⟩))
  | .func f => some (.func (.func f) #[] #[])

def ev (fr : Fr) (x : Operand) : Value := (evo fr x).getD undef

structure St (n : Nat) (fr : Fr) (a : Act) : Prop where
  size : a.tmps.size = n
  defers : a.defers = []
  fits : ∀ t v, fget fr t = some v → a.tmps[t]? = some v

theorem St.eval {n : Nat} {fr : Fr} {a : Act} (h : St n fr a) {x : Operand} {v : Value} (hv : evo fr x = some v) : a.eval x = v := by
  cases x with
  | tmp t =>
    have := h.fits t v hv
    simp [Act.eval, Array.getD_eq_getD_getElem?, this]
  | const u => simpa [evo, Act.eval] using hv
  | global g => simpa [evo, Act.eval] using hv
  | func f => simpa [evo, Act.eval] using hv

theorem fget_cons_self (d : Nat) (v : Value) (fr : Fr) : fget ((d, v) :: fr) d = some v := by simp [fget]
theorem fget_cons_ne {d t : Nat} (v : Value) (fr : Fr) (h : d ≠ t) : fget ((d, v) :: fr) t = fget fr t := by
  have : Nat.beq d t = false := by
    cases hb : Nat.beq d t with
    | false => rfl
    | true => exact absurd (Nat.eq_of_beq_eq_true hb) h
  simp [fget, this]

theorem St.put {n : Nat} {fr : Fr} {a : Act} (h : St n fr a) {d : Nat} (hd : d < n) (v : Value) : St n ((d, v) :: fr) (a.put (some d) v) := by
  refine ⟨by simp [Act.put, h.size], h.defers, fun t u hu => ?_⟩
  by_cases hdt : d = t
  · subst hdt
    rw [fget_cons_self] at hu
    obtain rfl := Option.some.inj hu
    simp [Act.put, h.size, hd]
  · rw [fget_cons_ne _ _ hdt] at hu
    simp [Act.put, Array.getElem?_setIfInBounds_ne hdt, h.fits t u hu]

/-- what is known may be written down once more -/
theorem St.again {n : Nat} {fr : Fr} {a : Act} (h : St n fr a) {d : Nat} {v : Value} (hv : fget fr d = some v) : St n ((d, v) :: fr) a := by
  refine ⟨h.size, h.defers, fun t u hu => ?_⟩
  by_cases hdt : d = t
  · subst hdt
    rw [fget_cons_self] at hu
    obtain rfl := Option.some.inj hu
    exact h.fits _ _ hv
  · rw [fget_cons_ne _ _ hdt] at hu
    exact h.fits t u hu

/-! types, as far as the statement tells them -/

inductive T1 where
  | int (k : IntKind) | bool | str | ptr | slice | map | any | addr | fn (g n : Nat) | agg (l : List T1)
inductive Ty where
  | one (t : T1) | agg (l : List T1)
inductive Rt where
  | val (t : Ty) | tup (l : List Ty)

def t1Of (P : Program) (T : TypeId) : T1 :=
  match P.underlying T with
  | some (.int k) => .int k
  | some .bool => .bool
  | some .string => .str
  | some (.pointer _) => .ptr
  | some (.slice _) => .slice
  | some (.map _ _) => .map
  | _ => .any

def flatT (P : Program) : Nat → TypeId → List T1
  | 0, _ => []
  | d + 1, T =>
    match P.underlying T with
    | some (.struct fs) => (fs.toList.map fun f => flatT P d f.type).flatten
    | some (.array n e) => (List.replicate n (flatT P d e)).flatten
    | _ => [t1Of P T]

def tyOf (P : Program) (T : TypeId) : Ty :=
  match P.underlying T with
  | some (.struct _) => .agg (flatT P 6 T)
  | some (.array _ _) => .agg (flatT P 6 T)
  | _ => .one (t1Of P T)

def rtOf (P : Program) (T : TypeId) : Rt :=
  match P.underlying T with
  | some (.tuple ts) => .tup (ts.toList.map (tyOf P))
  | _ => .val (tyOf P T)

/-- some value of a type -/
def E1 (t : T1) (F : Value → Prop) : Prop :=
  match t with
  | .int k => ∃ n : Int, F (.int k n)
  | .bool => ∃ b : Bool, F (.bool b)
  | .str => ∃ s : ByteArray, F (.string s)
  | .ptr => ∃ a : Option Addr, F (.pointer a)
  | .slice => ∃ (a : Option Addr) (len cap : Nat), F (.slice a len cap)
  | .map => ∃ r : Option Nat, F (.map r)
  | .any => ∃ v : Value, F v
  | .addr => ∃ a : Addr, F (.pointer (some a))
  | .fn _ _ => False
  | .agg _ => False

def EL : List T1 → (List Value → Prop) → Prop
  | [], F => F []
  | t :: r, F => E1 t fun v => EL r fun vs => F (v :: vs)

def ETy (t : Ty) (F : Value → Prop) : Prop :=
  match t with
  | .one t => E1 t F
  | .agg l => EL l fun vs => F (.agg vs.toArray)

def ETs : List Ty → (List Value → Prop) → Prop
  | [], F => F []
  | t :: r, F => ETy t fun v => ETs r fun vs => F (v :: vs)

def ERt (t : Rt) (F : Value → Prop) : Prop :=
  match t with
  | .val t => ETy t F
  | .tup l => ETs l fun vs => F (.tuple vs.toArray)

theorem E1.out {t : T1} {F : Value → Prop} (h : E1 t F) : ∃ v, F v := by
  cases t <;> simp only [E1] at h
  case slice => obtain ⟨a, l, c, h⟩ := h; exact ⟨_, h⟩
  all_goals (obtain ⟨x, h⟩ := h; exact ⟨_, h⟩)

theorem EL.out {l : List T1} {F : List Value → Prop} (h : EL l F) : ∃ vs, F vs := by
  induction l generalizing F with
  | nil => exact ⟨_, h⟩
  | cons t r ih => obtain ⟨v, h⟩ := E1.out h; obtain ⟨vs, h⟩ := ih h; exact ⟨_, h⟩

theorem ETy.out {t : Ty} {F : Value → Prop} (h : ETy t F) : ∃ v, F v := by
  cases t with
  | one t => exact E1.out h
  | agg l => obtain ⟨vs, h⟩ := EL.out h; exact ⟨_, h⟩

theorem ETs.out {l : List Ty} {F : List Value → Prop} (h : ETs l F) : ∃ vs, F vs := by
  induction l generalizing F with
  | nil => exact ⟨_, h⟩
  | cons t r ih => obtain ⟨v, h⟩ := ETy.out h; obtain ⟨vs, h⟩ := ih h; exact ⟨_, h⟩

theorem ERt.out {t : Rt} {F : Value → Prop} (h : ERt t F) : ∃ v, F v := by
  cases t with
  | val t => exact ETy.out h
  | tup l => obtain ⟨vs, h⟩ := ETs.out h; exact ⟨_, h⟩

/-! loads and stores -/

/-- The cells from 'p' on, number 'i' on, read by 'C'. -/
def LdL (C : Addr → Value → Prop) (p : Addr) : List T1 → Nat → (List Value → Prop) → Prop
  | [], _, K => K []
  | t :: r, i, K => E1 t fun v => C (p.add i) v ∧ LdL C p r (i + 1) fun vs => K (v :: vs)

def LdA (P : Program) (T : TypeId) (C : Addr → Value → Prop) (p : Addr) (K : Value → Prop) : Prop :=
  match P.info? T with
  | none => False
  | some i => cond (Nat.beq i.size (flatT P 6 T).length) (LdL C p (flatT P 6 T) 0 fun vs => K (.agg vs.toArray)) False

def Ld (P : Program) (T : TypeId) (C : Addr → Value → Prop) (p : Addr) (K : Value → Prop) : Prop :=
  match P.underlying T with
  | none => False
  | some (.struct _) => LdA P T C p K
  | some (.array _ _) => LdA P T C p K
  | some _ => E1 (t1Of P T) fun v => C p v ∧ K v

def Wr (w : World) (a : Addr) : Prop := (∃ old, w.cell? a = some old) ∧ w.frozen? a = false

def setCells (p : Addr) : List Value → Nat → World → World
  | [], _, w => w
  | v :: r, i, w => setCells p r (i + 1) (w.setCell (p.add i) v)

def oneV : Value → Bool
  | .agg _ => false
  | .tuple _ => false
  | _ => true

/-- A value is stored. -/
def Sr (P : Program) (T : TypeId) (p : Addr) (v : Value) (w : World) (K : World → Prop) : Prop :=
  match P.info? T with
  | none => False
  | some i =>
    match v with
    | .agg cs => cond (Nat.beq cs.size i.size) (cond (cs.toList.all oneV) ((∀ j, j < cs.size → Wr w (p.add j)) ∧ K (setCells p cs.toList 0 w)) False) False
    | v => cond (oneV v) (cond (Nat.beq 1 i.size) (Wr w p ∧ K (w.setCell p v)) False) False

/-! the runs of loads and stores -/

section
variable {P : Program}

theorem run_load1 {w : World} {p : Addr} {v : Value} (h : w.cell? p = some v) : (load p).run P w = .ok v w := by
  simp [run_load, h]

theorem LdL.out {C : Addr → Value → Prop} {p : Addr} : ∀ {l : List T1} {i : Nat} {K : List Value → Prop}, LdL C p l i K →
    ∃ vs, vs.length = l.length ∧ (∀ j v, vs[j]? = some v → C (p.add (i + j)) v) ∧ K vs
  | [], _, _, h => ⟨[], rfl, by simp, h⟩
  | t :: r, i, K, h => by
    obtain ⟨v, hc, h⟩ := E1.out h
    obtain ⟨vs, hl, hcs, hk⟩ := LdL.out h
    refine ⟨v :: vs, by simp [hl], fun j u hj => ?_, hk⟩
    cases j with
    | zero => simp at hj; subst hj; exact hc
    | succ j => simp at hj; have := hcs j u hj; rwa [show i + 1 + j = i + (j + 1) by omega] at this

def aggD : TypeDesc → Bool
  | .struct _ => true
  | .array _ _ => true
  | _ => false

theorem run_isAgg {T : TypeId} {d : TypeDesc} (h : P.underlying T = some d) (w : World) : (isAgg T).run P w = .ok (aggD d) w := by
  simp only [isAgg, Sem.run_bind, run_underlying h, Result.andThen_ok]
  cases d <;> rfl

theorem run_sizeOf' {T : TypeId} {i : TypeInfo} (h : P.info? T = some i) (w : World) : (sizeOf T).run P w = .ok i.size w := by
  simp [sizeOf, typeInfo, program, Sem.run, h]

/-- a load: there is a value that it gives in each world in which the cells read by 'C' are so -/
theorem Ld.out {T : TypeId} {C : Addr → Value → Prop} {p : Addr} {K : Value → Prop} (h : Ld P T C p K) :
    ∃ v, K v ∧ ∀ w, (∀ q u, C q u → w.cell? q = some u) → (loadVar T p).run P w = .ok v w := by
  have agg : ∀ d, P.underlying T = some d → aggD d = true → LdA P T C p K →
      ∃ v, K v ∧ ∀ w, (∀ q u, C q u → w.cell? q = some u) → (loadVar T p).run P w = .ok v w := by
    intro d hd hagg h
    unfold LdA at h
    split at h
    · exact h.elim
    · rename_i i hi
      cases hb : Nat.beq i.size (flatT P 6 T).length with
      | false => rw [hb] at h; exact h.elim
      | true =>
        rw [hb] at h
        obtain ⟨vs, hl, hc, hk⟩ := LdL.out h
        refine ⟨_, hk, fun w hw => ?_⟩
        have hsz : i.size = vs.length := by rw [hl]; exact Nat.eq_of_beq_eq_true hb
        have hrun := run_loadCells_list (P := P) w p vs (fun j v hj => hw _ _ (by have := hc j v hj; rwa [Nat.zero_add] at this))
        simp only [loadVar, Sem.run_bind, run_isAgg hd, hagg, Result.andThen_ok, if_true, run_sizeOf' hi, hsz, hrun]
        rfl
  unfold Ld at h
  split at h
  · exact h.elim
  · rename_i hd; exact agg _ hd rfl h
  · rename_i hd; exact agg _ hd rfl h
  · rename_i d hn1 hn2 hd
    obtain ⟨v, hc, hk⟩ := E1.out h
    refine ⟨v, hk, fun w hw => ?_⟩
    have hf : aggD d = false := by
      cases d <;> first | rfl | exact absurd rfl (hn1 _) | exact absurd rfl (hn2 _ _)
    simp only [loadVar, Sem.run_bind, run_isAgg hd, hf, Result.andThen_ok]
    exact run_load1 (hw _ _ hc)

theorem oneV_eq {v : Value} (h : oneV v = true) : v.oneCell' = true := by cases v <;> first | rfl | cases h

theorem setCell_some {w : World} {p q : Addr} {x v : Value} (h : w.cell? q = some v) : ∃ v', (w.setCell p x).cell? q = some v' := by
  by_cases e : p = q
  · subst e; exact ⟨x, World.cell?_setCell_same w p x h⟩
  · exact ⟨v, (World.cell?_setCell_other w p q x e).trans h⟩

theorem Wr.setCell {w : World} {a b : Addr} {v : Value} (h : Wr w a) : Wr (w.setCell b v) a := by
  obtain ⟨⟨old, h1⟩, h2⟩ := h
  obtain ⟨x, hx⟩ := setCell_some (w := w) (p := b) (x := v) h1
  exact ⟨⟨x, hx⟩, by rw [World.frozen?_setCell]; exact h2⟩

theorem run_store1 {w : World} {p : Addr} {v : Value} (h : Wr w p) (hv : oneV v = true) : (store p v).run P w = .ok () (w.setCell p v) := by
  obtain ⟨⟨old, h1⟩, h2⟩ := h
  cases v <;> first | (cases hv; done) | simp [store, Sem.run, h1, h2]

theorem run_storeL {p : Addr} : ∀ (vs : List Value) (i : Nat) (w : World), (∀ j, i ≤ j → j < i + vs.length → Wr w (p.add j)) → vs.all oneV = true →
    (storeCells p vs i).run P w = .ok () (setCells p vs i w)
  | [], i, w, _, _ => by simp [storeCells, setCells]
  | v :: r, i, w, h, ho => by
    simp only [List.all_cons, Bool.and_eq_true] at ho
    have h0 := h i (Nat.le_refl _) (by simp)
    have ih := run_storeL r (i + 1) (w.setCell (p.add i) v) (fun j hj hj' => (h j (by omega) (by simp; omega)).setCell) ho.2
    simp only [storeCells, Sem.run_bind, run_store1 h0 ho.1, Result.andThen_ok, ih, setCells]

theorem Sr.out {T : TypeId} {p : Addr} {v : Value} {w : World} {K : World → Prop} (h : Sr P T p v w K) :
    ∃ w', (storeVar T p v).run P w = .ok () w' ∧ K w' := by
  unfold Sr at h
  split at h
  · exact h.elim
  · rename_i i hi
    have one : ∀ v : Value, v.cells = #[v] → cond (oneV v) (cond (Nat.beq 1 i.size) (Wr w p ∧ K (w.setCell p v)) False) False → ∃ w', (storeVar T p v).run P w = .ok () w' ∧ K w' := by
      intro v hcells h
      cases ho : oneV v with
      | false => rw [ho] at h; exact h.elim
      | true =>
        cases hb : Nat.beq 1 i.size with
        | false => rw [ho, hb] at h; exact h.elim
        | true =>
          rw [ho, hb] at h
          refine ⟨_, ?_, h.2⟩
          have hs : i.size = 1 := (Nat.eq_of_beq_eq_true hb).symm
          have hp : p.add 0 = p := by simp [Addr.add]
          have := run_storeL (P := P) (p := p) [v] 0 w (fun j hj hj' => by obtain rfl : j = 0 := by simp at hj'; omega
                                                                           rw [hp]; exact h.1) (by simp [ho])
          simp only [setCells, hp] at this
          simp [storeVar, Sem.run_bind, run_sizeOf' hi, hcells, hs, this]
    cases v with
    | agg cs =>
      dsimp only at h
      cases hb : Nat.beq cs.size i.size with
      | false => rw [hb] at h; exact h.elim
      | true =>
        cases ho : cs.toList.all oneV with
        | false => rw [hb, ho] at h; exact h.elim
        | true =>
          rw [hb, ho] at h
          refine ⟨_, ?_, h.2⟩
          have hs : cs.size = i.size := Nat.eq_of_beq_eq_true hb
          have := run_storeL (P := P) (p := p) cs.toList 0 w (fun j _ hj' => h.1 j (by simpa using hj')) ho
          simp [storeVar, Sem.run_bind, run_sizeOf' hi, Value.cells, hs, this]
    | _ => exact one _ rfl h
end

/-- the place of the next new block -/
def newA (w : World) : Addr := ⟨w.heap.size, 0, none⟩

/-! one operation -/

/-- A call: the results by their types. -/
def CallsV (P : Program) (f : FuncId) (args : Array Value) (w : World) (R : Value → World → Prop) : Prop :=
  Calls P f args w fun e w' => ∃ v, e = .returned v ∧ R v w'

theorem CallsV.mono {P : Program} {f : FuncId} {args : Array Value} {w : World} {R R' : Value → World → Prop} (h : CallsV P f args w R) (hr : ∀ v w', R v w' → R' v w') : CallsV P f args w R' :=
  Calls.mono h fun _ _ ⟨v, he, hR⟩ => ⟨v, he, hr _ _ hR⟩

/-- An operation that only reckons: its value. -/
def pureVal (P : Program) : Sem Next → Option Value
  | .pure (.value v) => some v
  | .program k => pureVal P (k P)
  | _ => none

theorem run_of_pureVal {P : Program} {v : Value} : ∀ {s : Sem Next}, pureVal P s = some v → ∀ w, s.run P w = .ok (.value v) w
  | .pure n, h, w => by cases n <;> first | (cases h; rfl) | cases h
  | .program k, h, w => by simp only [pureVal] at h; simp only [Sem.run]; exact run_of_pureVal h w
  | .load .., h, _ => by cases h
  | .store .., h, _ => by cases h
  | .new .., h, _ => by cases h
  | .shape .., h, _ => by cases h
  | .freeze .., h, _ => by cases h
  | .frozen .., h, _ => by cases h
  | .getObj .., h, _ => by cases h
  | .setObj .., h, _ => by cases h
  | .choose .., h, _ => by cases h
  | .sys .., h, _ => by cases h
  | .mark .., h, _ => by cases h
  | .halt .., h, _ => by cases h

def known (fr : Fr) (o : Oper) : Bool := o.op.operands.toList.all fun x => (evo fr x).isSome

def noSel : Op → Bool
  | .select _ _ => false
  | _ => true

theorem exec_ev {n : Nat} {fr : Fr} {a : Act} {o : Oper} (hs : St n fr a) (hk : known fr o = true) (hn : noSel o.op = true) : execOp a.eval o = execOp (ev fr) o := by
  refine execOp_congr o (fun cs b h => by rw [h] at hn; cases hn) fun x hx => ?_
  have := List.all_eq_true.1 hk x (by simpa using hx)
  obtain ⟨v, hv⟩ := Option.isSome_iff_exists.1 this
  rw [hs.eval hv, ev, hv]; rfl

/-- the size of a slice's or an array's element -/
def esz (P : Program) (T : TypeId) : Nat :=
  match P.underlying T with
  | some (.slice e) => P.cellsOf e
  | some (.array _ e) => P.cellsOf e
  | _ => 0

/-- a place's offset -/
def ixOff (i s : Nat) : Nat := cond (Nat.beq s 1) i (i * s)
theorem ixOff_eq (i s : Nat) : ixOff i s = i * s := by
  unfold ixOff
  cases h : Nat.beq s 1 with
  | false => rfl
  | true => rw [Nat.eq_of_beq_eq_true h]; simp

def known? (P : Program) (T : TypeId) : Bool := (P.info? T).isSome

/-- 's' run: its value by its type, and the world behind it. -/
def Raw (P : Program) (s : Sem Next) (r : Rt) (w : World) (K : Value → World → Prop) : Prop :=
  ERt r fun v => ∃ w', s.run P w = .ok (.value v) w' ∧ K v w'
def RawU (P : Program) (s : Sem Next) (w : World) (K : Value → World → Prop) : Prop :=
  ∃ w', s.run P w = .ok .skip w' ∧ K undef w'

/-- is an interface's value nil? -/
def nilB : Value → Option Bool
  | .nilIface => some true
  | .iface _ _ => some false
  | _ => none


/-- Operations that read the world, with 'C' for what the cells hold; 'none': it is no such operation. The value alone. -/
def LQuiet (P : Program) (o : Oper) (fr : Fr) (C : Addr → Value → Prop) (K : Value → Prop) : Prop :=
  match o.op with
  | .load T x =>
    match evo fr x with
    | some (.pointer (some p)) => Ld P T C p K
    | _ => False
  | .nilCheck x =>
    match evo fr x with
    | some (.pointer a) => ∃ p, a = some p ∧ K (.pointer (some p))
    | some (.func f fs cs) => match f with
      | .func _ => K (.func f fs cs)
      | _ => False
    | _ => False
  | .indexAddr T x i =>
    match evo fr x, evo fr i with
    | some (.slice a len _), some (.int _ i) =>
      match P.underlying T with
      | some (.slice e) => cond (known? P e) (0 ≤ i ∧ i < len ∧ ∃ p, a = some p ∧ K (.pointer (some (p.add (ixOff i.toNat (P.cellsOf e)))))) False
      | _ => False
    | some (.pointer (some p)), some (.int _ i) =>
      match P.underlying T with
      | some (.array n e) => cond (known? P e) (0 ≤ i ∧ i < n ∧ K (.pointer (some (p.add (ixOff i.toNat (P.cellsOf e)))))) False
      | _ => False
    | _, _ => False
  | .index T x i =>
    match evo fr x, evo fr i with
    | some (.string s), some (.int _ i) =>
      match P.underlying T with
      | some .string => 0 ≤ i ∧ ∃ b : UInt8, s[i.toNat]? = some b ∧ K (.int .u8 b.toNat)
      | _ => False
    | some (.agg cs), some (.int _ i) =>
      match P.underlying T with
      | some (.array n e) =>
        match P.info? e, P.underlying e with
        | some inf, some d => cond (aggD d) False (0 ≤ i ∧ i < n ∧ E1 (t1Of P e) fun v => cs[ixOff i.toNat inf.size]? = some v ∧ K v)
        | _, _ => False
      | _ => False
    | _, _ => False
  | .binOp op T x (.const .nilIface) _ =>
    match evo fr x, P.underlying T with
    | some v, some (.interface _) => match op with
      | .eql => ∃ b : Bool, nilB v = some b ∧ K (.bool b)
      | .neq => ∃ b : Bool, nilB v = some b ∧ K (.bool (!b))
      | _ => False
    | _, _ => False
  | .binOp op T x y _ =>
    match op, evo fr x, evo fr y with
    | .quo, some (.int k a), some (.int k' b) => cond (decide (k = k')) (b ≠ 0 ∧ K (.int k (k.wrap (a.tdiv b)))) False
    | .rem, some (.int k a), some (.int k' b) => cond (decide (k = k')) (b ≠ 0 ∧ K (.int k (a.tmod b))) False
    | .shl, some (.int k a), some (.int _ b) => 0 ≤ b ∧ K (.int k (k.wrap (a * 2 ^ (min b.toNat k.bits))))
    | .shr, some (.int k a), some (.int _ b) => 0 ≤ b ∧ K (.int k (a.fdiv (2 ^ (min b.toNat k.bits))))
    | .eql, some (.pointer a), some (.pointer none) => match P.underlying T with
      | some (.pointer _) => K (.bool a.isNone)
      | _ => False
    | .neq, some (.pointer a), some (.pointer none) => match P.underlying T with
      | some (.pointer _) => K (.bool (!a.isNone))
      | _ => False
    | .eql, some (.slice a _ _), some (.slice none 0 0) => match P.underlying T with
      | some (.slice _) => K (.bool a.isNone)
      | _ => False
    | .neq, some (.slice a _ _), some (.slice none 0 0) => match P.underlying T with
      | some (.slice _) => K (.bool (!a.isNone))
      | _ => False
    | _, some _, some _ =>
      match pureVal P (execOp (ev fr) o) with
      | some v => K v
      | none => False
    | _, _, _ => False
  | .slice T x lo hi mx =>
    match evo fr x, P.underlying T with
    | some (.slice a len cap), some (.slice e) =>
      cond (known? P e)
      (let m : Option Int := match mx with
        | none => some cap
        | some m => match evo fr m with | some (.int _ m) => some m | _ => none
      let h : Option Int := match hi with
        | none => match mx with
          | none => some len
          | some _ => none
        | some h => match evo fr h with | some (.int _ h) => some h | _ => none
      let l : Option Int := match lo with
        | none => some 0
        | some l => match evo fr l with | some (.int _ l) => some l | _ => none
      match l, h, m with
      | some l, some h, some m => 0 ≤ l ∧ l ≤ h ∧ h ≤ m ∧ m ≤ cap ∧ K (.slice (if m.toNat = l.toNat then a else a.map (·.add (ixOff l.toNat (P.cellsOf e)))) (h.toNat - l.toNat) (m.toNat - l.toNat))
      | _, _, _ => False) False
    | _, _ => False
  | _ =>
    cond (noSel o.op && known fr o)
    (match pureVal P (execOp (ev fr) o) with
    | some v => K v
    | none => False) False

/-- Is it one that only reads and reckons? -/
def quietB (P : Program) (o : Op) : Bool :=
  match o with
  | .convert _ d _ => match P.underlying d with
    | some (.int _) => true
    | _ => false
  | .load .. | .nilCheck .. | .indexAddr .. | .index .. | .binOp .. | .slice .. | .move .. | .assign .. | .pick .. | .unOp .. | .fieldAddr .. | .field .. | .extract .. | .build .. | .makeFunc .. | .makeInterface .. => true
  | .call { callee := .builtin .len, argTypes, .. } => match P.underlying (argTypes.getD 0 0) with
    | some (.map _ _) => false
    | _ => true
  | .call { callee := .builtin .max, .. } => true
  | .call { callee := .builtin .min, .. } => true
  | .call { callee := .builtin .cap, .. } => true
  | _ => false

/-- Operations that make memory, write, or call. -/
def LLoud (P : Program) (o : Oper) (fr : Fr) (w : World) (K : Value → World → Prop) : Prop :=
  match o.op with
  | .store T x y =>
    match evo fr x, evo fr y with
    | some (.pointer (some p)), some v => Sr P T p v w fun w' => K undef w'
    | _, _ => False
  | .makeSlice T l c =>
    match evo fr l, evo fr c, P.underlying T with
    | some (.int _ l), some (.int _ c), some (.slice e) =>
      match P.info? e with
      | some i =>
        match i.zero with
        | some z => 0 ≤ l ∧ l ≤ c ∧ i.bytes * c ≤ 281474976710656 ∧ c ≤ 9223372036854775807 ∧ K (.slice (some ⟨w.heap.size, 0, none⟩) l.toNat c.toNat) (w.alloc (.cells ((Array.range (c.toNat * i.size)).map (z.cells[· % z.cells.size]!)) e))
        | none => False
      | none => False
    | _, _, _ => False
  | .call { callee := .builtin b, args, argTypes } =>
    match b with
    | .append => cond (known fr o) (Raw P (builtin .append argTypes o.type #[] (args.map (ev fr))) (.val (.one .slice)) w K) False
    | .copy => cond (known fr o) (Raw P (builtin .copy argTypes o.type #[] (args.map (ev fr))) (.val (.one (.int .i64))) w K) False
    | .len => cond (known fr o) (Raw P (builtin .len argTypes o.type #[] (args.map (ev fr))) (.val (.one (.int .i64))) w K) False
    | .clear => cond (known fr o) (Raw P (builtin .clear argTypes o.type #[] (args.map (ev fr))) (.tup []) w K) False
    | _ => False
  | .call { callee := .value f, args, .. } =>
    cond (known fr o)
    (match evo fr f with
    | some (.func (.func g) first captured) =>
      match P.funcs[g]? with
      | some fn => cond (fn.body.isSome && !(fn.name == "runtime.NumGoroutine")) (CallsV P g ((first ++ args.map (ev fr)) ++ captured) w fun v w' => ERt (rtOf P o.type) fun u => v = u ∧ K u w')
          (cond fn.body.isNone (Raw P (callFunc g ((first ++ args.map (ev fr)) ++ captured)) (rtOf P o.type) w K) False)
      | none => False
    | _ => False) False
  | .mapUpdate _ _ _ _ => cond (known fr o) (RawU P (execOp (ev fr) o) w K) False
  | .lookup .. => cond (known fr o) (Raw P (execOp (ev fr) o) (rtOf P o.type) w K) False
  | .convert .. => cond (known fr o) (Raw P (execOp (ev fr) o) (rtOf P o.type) w K) False
  | _ =>
    cond (noSel o.op && known fr o)
    (match (execOp (ev fr) o).run P w with
    | .ok (.value v) w' => K v w'
    | .ok .skip w' => K undef w'
    | _ => False) False

section
variable {P : Program} {n : Nat} {fr : Fr} {a : Act} {o : Oper}

theorem cond_f {c : Bool} {p : Prop} (h : cond c p False) : c = true ∧ p := by cases c <;> simp_all

theorem pure_case {K : Value → Prop} (hs : St n fr a) (hn : noSel o.op = true) (hk : known fr o = true)
    (h : match pureVal P (execOp (ev fr) o) with | some v => K v | none => False) :
    ∃ v, K v ∧ ∀ w, (execOp a.eval o).run P w = .ok (.value v) w := by
  split at h
  · rename_i v hv
    exact ⟨v, h, fun w => by rw [exec_ev hs hk hn]; exact run_of_pureVal hv w⟩
  · exact h.elim

theorem run_eqIn {T e : TypeId} (hT : P.underlying T = some (.pointer e)) (d : Nat) (b : Option Addr) (w : World) : (Op.equalIn (d + 1) T (.pointer b) (.pointer none)).run P w = .ok b.isNone w := by
  simp only [Op.equalIn, Sem.run_bind, run_underlying hT, Result.andThen_ok]
  cases b <;> rfl

theorem run_eqPtr {T e : TypeId} (hT : P.underlying T = some (.pointer e)) (b : Option Addr) (w : World) : (Op.equalIn Op.maxDepth T (.pointer b) (.pointer none)).run P w = .ok b.isNone w := by
  exact run_eqIn hT 9999 b w

theorem run_eqInS {T e : TypeId} (hT : P.underlying T = some (.slice e)) (d : Nat) (b : Option Addr) (l c : Nat) (w : World) : (Op.equalIn (d + 1) T (.slice b l c) (.slice none 0 0)).run P w = .ok b.isNone w := by
  simp only [Op.equalIn, Sem.run_bind, run_underlying hT, Result.andThen_ok]
  cases b <;> rfl

theorem run_eqSl {T e : TypeId} (hT : P.underlying T = some (.slice e)) (b : Option Addr) (l c : Nat) (w : World) : (Op.equalIn Op.maxDepth T (.slice b l c) (.slice none 0 0)).run P w = .ok b.isNone w :=
  run_eqInS hT 9999 b l c w

theorem run_eqNil {T : TypeId} {m : Array (String × TypeId)} (hT : P.underlying T = some (.interface m)) {v : Value} {b : Bool} (hv : nilB v = some b) (w : World) : (Op.equal T v .nilIface).run P w = .ok b w := by
  have key : ∀ d, (Op.equalIn (d + 1) T v .nilIface).run P w = .ok b w := by
    intro d
    have key : b = true ∧ v = .nilIface ∨ b = false ∧ ∃ t u, v = .iface t u := by
      cases v <;> first | (cases hv; done) | skip
      · exact .inr ⟨(Option.some.inj hv).symm, _, _, rfl⟩
      · exact .inl ⟨(Option.some.inj hv).symm, rfl⟩
    rcases key with ⟨rfl, rfl⟩ | ⟨rfl, t, u, rfl⟩
    · simp only [Op.equalIn, Sem.run_bind, run_underlying hT, Result.andThen_ok]
      rfl
    · simp only [Op.equalIn, Sem.run_bind, run_underlying hT, Result.andThen_ok]
      rfl
  exact key 9999
theorem run_guardNil {T : TypeId} {op : BinOp} {x : Operand} {c u : Value} (w : World) : (eqGuard op T x (.const c) u .nilIface).run P w = .ok () w := by
  unfold eqGuard
  cases op <;> (try rfl) <;> cases u <;> (try rfl) <;> cases x <;> rfl

theorem run_indexAt_slice {T e : TypeId} {i : Int} {k : IntKind} {a : Option Addr} {len cap : Nat} {p : Addr} (hT : P.underlying T = some (.slice e)) (hk : known? P e = true) (ha : a = some p) (h0 : 0 ≤ i) (h1 : i < len) (w : World) :
    (Instr.indexAt T (.slice a len cap) (.int k i)).run P w = .ok (.pointer (some (p.add (ixOff i.toNat (P.cellsOf e))))) w := by
  subst ha
  obtain ⟨x, hx⟩ := Option.isSome_iff_exists.1 hk
  have hc : P.cellsOf e = x.size := by simp [Program.cellsOf, hx]
  simp [Instr.indexAt, asIntOf, run_underlying hT, run_sizeOf' hx, h0, h1, hc, ixOff_eq]

theorem run_indexAt_array {T e : TypeId} {i : Int} {k : IntKind} {m : Nat} {p : Addr} (hT : P.underlying T = some (.array m e)) (hk : known? P e = true) (h0 : 0 ≤ i) (h1 : i < m) (w : World) :
    (Instr.indexAt T (.pointer (some p)) (.int k i)).run P w = .ok (.pointer (some (p.add (ixOff i.toNat (P.cellsOf e))))) w := by
  obtain ⟨x, hx⟩ := Option.isSome_iff_exists.1 hk
  have hc : P.cellsOf e = x.size := by simp [Program.cellsOf, hx]
  simp [Instr.indexAt, Instr.sureAddr, asIntOf, run_underlying hT, run_sizeOf' hx, h0, h1, hc, ixOff_eq]

theorem run_sliceAt {T e : TypeId} {a : Option Addr} {len cap : Nat} {lo hi mx : Option Value} {l h m : Int} (hT : P.underlying T = some (.slice e)) (hk : known? P e = true)
    (hl : (lo = none ∧ l = 0) ∨ ∃ k, lo = some (.int k l)) (hh : (hi = none ∧ h = len ∧ mx = none) ∨ ∃ k, hi = some (.int k h)) (hm : (mx = none ∧ m = cap) ∨ ∃ k, mx = some (.int k m))
    (h0 : 0 ≤ l) (h1 : l ≤ h) (h2 : h ≤ m) (h3 : m ≤ cap) (w : World) :
    (Instr.sliceAt T (.slice a len cap) lo hi mx).run P w = .ok (.slice (if m.toNat = l.toNat then a else a.map (·.add (ixOff l.toNat (P.cellsOf e)))) (h.toNat - l.toNat) (m.toNat - l.toNat)) w := by
  obtain ⟨x, hx⟩ := Option.isSome_iff_exists.1 hk
  have hc : P.cellsOf e = x.size := by simp [Program.cellsOf, hx]
  have e2 : 0 ≤ h := by omega
  have e3 : 0 ≤ m := by omega
  have x1 : max h 0 = h := Int.max_eq_left e2
  have x2 : max m 0 = m := Int.max_eq_left e3
  rcases hl with ⟨rfl, rfl⟩ | ⟨kl, rfl⟩ <;> rcases hm with ⟨rfl, rfl⟩ | ⟨km, rfl⟩ <;> rcases hh with ⟨rfl, rfl, hx'⟩ | ⟨kh, rfl⟩ <;> (try cases hx') <;>
    simp [Instr.sliceAt, Instr.slice, Instr.sliceBounds, Instr.sliceBound, asIntOf, run_underlying hT, run_sizeOf' hx, hc, h0, h1, h2, h3, e2, e3, x1, x2, ixOff_eq]

end

section
variable {P : Program} {n : Nat} {fr : Fr} {a : Act} {o : Oper}

/-- **WHAT A QUIET OPERATION GIVES**, in each world in which the cells read so. -/
theorem LQuiet.out {C : Addr → Value → Prop} {K : Value → Prop} (hs : St n fr a) (h : LQuiet P o fr C K) :
    ∃ v, K v ∧ ∀ w, (∀ q u, C q u → w.cell? q = some u) → (execOp a.eval o).run P w = .ok (.value v) w := by
  obtain ⟨dst, op, type, pos, after, guard⟩ := o
  have pc : noSel op = true → known fr ⟨dst, op, type, pos, after, guard⟩ = true → (match pureVal P (execOp (ev fr) ⟨dst, op, type, pos, after, guard⟩) with | some v => K v | none => False) →
      ∃ v, K v ∧ ∀ w, (∀ q u, C q u → w.cell? q = some u) → (execOp a.eval ⟨dst, op, type, pos, after, guard⟩).run P w = .ok (.value v) w := fun hn hk h =>
    let ⟨v, hv, hr⟩ := pure_case hs hn hk h
    ⟨v, hv, fun w _ => hr w⟩
  unfold LQuiet at h
  split at h
  case h_1 T x hop =>
    simp only at hop; subst hop
    split at h
    · rename_i p hx
      obtain ⟨v, hk, hw⟩ := Ld.out h
      refine ⟨v, hk, fun w hc => ?_⟩
      simp only [execOp, hs.eval hx, Instr.loadAt, Instr.sureAddr, Sem.run_bind, Sem.run_pure, Result.andThen_ok, hw w hc]
    · exact h.elim
  case h_2 x hop =>
    simp only at hop; subst hop
    split at h
    · rename_i q hx
      obtain ⟨p, rfl, hk⟩ := h
      exact ⟨_, hk, fun w _ => by simp only [execOp, hs.eval hx, Sem.run_pure]⟩
    · rename_i f fs cs hx
      split at h
      · exact ⟨_, h, fun w _ => by simp only [execOp, hs.eval hx, Sem.run_pure]⟩
      · exact h.elim
    · exact h.elim
  case h_3 T x i hop =>
    simp only at hop; subst hop
    split at h
    · rename_i b len cap k j hx hi
      split at h
      · rename_i e hT
        obtain ⟨hk, h0, h1, p, hp, hK⟩ := cond_f h
        exact ⟨_, hK, fun w _ => by simp only [execOp, hs.eval hx, hs.eval hi, Sem.run_bind, run_indexAt_slice hT hk hp h0 h1, Result.andThen_ok, Sem.run_pure]⟩
      · exact h.elim
    · rename_i p k j hx hi
      split at h
      · rename_i m e hT
        obtain ⟨hk, h0, h1, hK⟩ := cond_f h
        exact ⟨_, hK, fun w _ => by simp only [execOp, hs.eval hx, hs.eval hi, Sem.run_bind, run_indexAt_array hT hk h0 h1, Result.andThen_ok, Sem.run_pure]⟩
      · exact h.elim
    · exact h.elim
  case h_4 T x i hop =>
    simp only at hop; subst hop
    split at h
    · rename_i s k j hx hi
      split at h
      · rename_i hT
        obtain ⟨h0, b, hb, hK⟩ := h
        exact ⟨_, hK, fun w _ => by simp [execOp, hs.eval hx, hs.eval hi, Instr.index, asIntOf, run_underlying hT, h0, hb]⟩
      · exact h.elim
    · rename_i cs k j hx hi
      split at h
      · rename_i n e hT
        split at h
        · rename_i inf d hinf hd
          cases hag : aggD d with
          | true => rw [hag] at h; exact h.elim
          | false =>
            rw [hag] at h
            obtain ⟨h0, h1, h⟩ := h
            obtain ⟨v, hv, hK⟩ := E1.out h
            rw [ixOff_eq] at hv
            exact ⟨v, hK, fun w _ => by simp [execOp, hs.eval hx, hs.eval hi, Instr.index, asIntOf, run_underlying hT, h0, h1, part, Sem.run_bind, run_isAgg hd, hag, run_sizeOf' hinf, hv]⟩
        · exact h.elim
      · exact h.elim
    · exact h.elim
  case h_5 op T x T' hop =>
    simp only at hop; subst hop
    have hy : a.eval (.const .nilIface) = .nilIface := rfl
    split at h
    · rename_i v ms hx hT
      split at h
      · obtain ⟨b, hb, hK⟩ := h
        refine ⟨_, hK, fun w _ => ?_⟩
        simp [execOp, hs.eval hx, hy, binOp, run_eqNil hT hb, run_guardNil]
      · obtain ⟨b, hb, hK⟩ := h
        refine ⟨_, hK, fun w _ => ?_⟩
        simp [execOp, hs.eval hx, hy, binOp, run_eqNil hT hb, run_guardNil]
      · exact h.elim
    · exact h.elim
  case h_6 op T x y T' _ hop =>
    simp only at hop; subst hop
    split at h
    · rename_i k b k' c hx hy
      obtain ⟨hk, h0, hK⟩ := cond_f h
      have hk := of_decide_eq_true hk
      subst hk
      exact ⟨_, hK, fun w _ => by simp [execOp, hs.eval hx, hs.eval hy, eqGuard, binOp, Op.intDiv, h0]⟩
    · rename_i k b k' c hx hy
      obtain ⟨hk, h0, hK⟩ := cond_f h
      have hk := of_decide_eq_true hk
      subst hk
      exact ⟨_, hK, fun w _ => by simp [execOp, hs.eval hx, hs.eval hy, eqGuard, binOp, Op.intDiv, h0]⟩
    · rename_i k b k' c hx hy
      obtain ⟨h0, hK⟩ := h
      have h0' : ¬ c < 0 := by omega
      exact ⟨_, hK, fun w _ => by simp [execOp, hs.eval hx, hs.eval hy, eqGuard, binOp, Op.shift, h0']⟩
    · rename_i k b k' c hx hy
      obtain ⟨h0, hK⟩ := h
      have h0' : ¬ c < 0 := by omega
      exact ⟨_, hK, fun w _ => by simp [execOp, hs.eval hx, hs.eval hy, eqGuard, binOp, Op.shift, h0']⟩
    · rename_i b hx hy
      split at h
      · rename_i hT
        refine ⟨_, h, fun w _ => ?_⟩
        simp [execOp, hs.eval hx, hs.eval hy, eqGuard, binOp, Op.equal, run_eqPtr hT]
      · exact h.elim
    · rename_i b hx hy
      split at h
      · rename_i hT
        refine ⟨_, h, fun w _ => ?_⟩
        simp [execOp, hs.eval hx, hs.eval hy, eqGuard, binOp, Op.equal, run_eqPtr hT]
      · exact h.elim
    · rename_i b l c hx hy
      split at h
      · rename_i hT
        refine ⟨_, h, fun w _ => ?_⟩
        simp [execOp, hs.eval hx, hs.eval hy, eqGuard, binOp, Op.equal, run_eqSl hT]
      · exact h.elim
    · rename_i b l c hx hy
      split at h
      · rename_i hT
        refine ⟨_, h, fun w _ => ?_⟩
        simp [execOp, hs.eval hx, hs.eval hy, eqGuard, binOp, Op.equal, run_eqSl hT]
      · exact h.elim
    · rename_i v u _ _ _ _ _ _ _ _ hx hy
      refine pc rfl ?_ h
      simp [known, Op.operands, hx, hy]
    · exact h.elim
  case h_7 T x lo hi mx hop =>
    simp only at hop; subst hop
    split at h
    · rename_i b len cap e hx hT
      obtain ⟨hk, h⟩ := cond_f h
      dsimp only at h
      split at h
      · rename_i l' h' m' el eh em
        obtain ⟨h0, h1, h2, h3, hK⟩ := h
        refine ⟨_, hK, fun w _ => ?_⟩
        have hl : ((lo.map a.eval) = none ∧ l' = 0) ∨ ∃ k, (lo.map a.eval) = some (.int k l') := by
          cases lo with
          | none => simp at el; exact .inl ⟨rfl, el.symm⟩
          | some q =>
            dsimp only at el
            split at el
            · rename_i k m hq; obtain rfl := Option.some.inj el; exact .inr ⟨k, by simp [hs.eval hq]⟩
            · cases el
        have hm : ((mx.map a.eval) = none ∧ m' = cap) ∨ ∃ k, (mx.map a.eval) = some (.int k m') := by
          cases mx with
          | none => simp at em; exact .inl ⟨rfl, em.symm⟩
          | some q =>
            dsimp only at em
            split at em
            · rename_i k m hq; obtain rfl := Option.some.inj em; exact .inr ⟨k, by simp [hs.eval hq]⟩
            · cases em
        have hh : ((hi.map a.eval) = none ∧ h' = len ∧ (mx.map a.eval) = none) ∨ ∃ k, (hi.map a.eval) = some (.int k h') := by
          cases hi with
          | none =>
            dsimp only at eh
            split at eh
            · simp at eh; exact .inl ⟨rfl, eh.symm, rfl⟩
            · cases eh
          | some q =>
            dsimp only at eh
            split at eh
            · rename_i k m hq; obtain rfl := Option.some.inj eh; exact .inr ⟨k, by simp [hs.eval hq]⟩
            · cases eh
        simp only [execOp, hs.eval hx, Sem.run_bind, run_sliceAt hT hk hl hh hm h0 h1 h2 h3, Result.andThen_ok, Sem.run_pure]
      · exact h.elim
    · exact h.elim
  case h_8 =>
    obtain ⟨hk, h⟩ := cond_f h
    simp only [Bool.and_eq_true] at hk
    exact pc hk.1 hk.2 h
end

section
variable {P : Program} {n : Nat} {fr : Fr} {a : Act} {o : Oper}

theorem raw_upon {s : Sem Next} {r : Rt} {w : World} {K : Value → World → Prop} {next : Act → World → Prop} {Q : Exit → Act → World → Prop} (h : Raw P s r w K)
    (hn : ∀ v w', K v w' → next (a.put o.dst v) w') : o.upon P a next Q (s.run P w) := by
  obtain ⟨v, w', hr, hk⟩ := ERt.out h
  rw [hr]
  exact hn _ _ hk

theorem map_ev (hs : St n fr a) {args : Array Operand} (h : ∀ x ∈ args, (evo fr x).isSome = true) : args.map a.eval = args.map (ev fr) := by
  refine Array.map_congr_left fun x hx => ?_
  obtain ⟨v, hv⟩ := Option.isSome_iff_exists.1 (h x hx)
  rw [hs.eval hv, ev, hv]; rfl

theorem run_newRow' (e : TypeId) (c : Array Value) (w : World) : (newRow e c).run P w = .ok ⟨w.heap.size, 0, none⟩ (w.alloc (.cells c e)) := rfl

theorem LLoud.wp {w : World} {K : Value → World → Prop} {next : Act → World → Prop} {Q : Exit → Act → World → Prop} (hs : St n fr a) (h : LLoud P o fr w K)
    (hn : ∀ v w', K v w' → next (a.put o.dst v) w') : o.wp P a w next Q := by
  obtain ⟨dst, op, type, pos, after, guard⟩ := o
  unfold Oper.wp
  unfold LLoud at h
  split at h
  case h_1 T x y hop =>
    simp only at hop; subst hop
    split at h
    · rename_i p v hx hy
      obtain ⟨w', hr, hk⟩ := Sr.out h
      simp only [execOp, hs.eval hx, hs.eval hy, Instr.storeAt, Instr.sureAddr, Sem.run_bind, Sem.run_pure, Result.andThen_ok, hr]
      exact hn _ _ hk
    · exact h.elim
  case h_2 T l c hop =>
    simp only at hop; subst hop
    split at h
    · rename_i kl l kc c e hl hc hT
      split at h
      · rename_i i hi
        split at h
        · rename_i z hz
          obtain ⟨h0, h1, h2, h3, hK⟩ := h
          have e1 : IntKind.i64.wrap l = l := by rw [IntKind.wrap_i64]; omega
          have e2 : IntKind.i64.wrap c = c := by rw [IntKind.wrap_i64]; omega
          have t1 : ¬ (i.bytes : Int) * c > 281474976710656 := by omega
          have t2 : ¬ c < 0 := by omega
          have t3 : ¬ l < 0 := by omega
          have t4 : ¬ l > c := by omega
          have hr : (Instr.makeSlice T (.int kl l) (.int kc c)).run P w = .ok (.slice (some ⟨w.heap.size, 0, none⟩) l.toNat c.toNat) (w.alloc (.cells ((Array.range (c.toNat * i.size)).map (z.cells[· % z.cells.size]!)) e)) := by
            have hti : (typeInfo e).run P w = .ok i w := by simp [typeInfo, program, Sem.run, hi]
            have hzv : (zeroValue e).run P w = .ok z w := by simp [zeroValue, hti, hz]
            by_cases hn0 : c.toNat * i.size = 0
            · simp [Instr.makeSlice, run_underlying hT, asInt, asIntOf, hti, e1, e2, t1, t2, t3, t4, askRoom, roomBytes, run_sizeOf' hi, hn0, run_newRow']
              have z0 : ∀ f : Nat → Value, (Array.range 0).map f = #[] := fun f => Array.eq_empty_of_size_eq_zero (by simp)
              rw [z0, z0]
            · simp [Instr.makeSlice, run_underlying hT, asInt, asIntOf, hti, e1, e2, t1, t2, t3, t4, askRoom, roomBytes, run_sizeOf' hi, hn0, hzv, run_newRow']
          simp only [execOp, hs.eval hl, hs.eval hc, Sem.run_bind, hr, Result.andThen_ok, Sem.run_pure]
          exact hn _ _ hK
        · exact h.elim
      · exact h.elim
    · exact h.elim
  case h_3 b args argTypes hop =>
    simp only at hop; subst hop
    split at h
    · obtain ⟨hk, h⟩ := cond_f h
      rw [exec_ev hs hk rfl]
      exact raw_upon h hn
    · obtain ⟨hk, h⟩ := cond_f h
      rw [exec_ev hs hk rfl]
      exact raw_upon h hn
    · obtain ⟨hk, h⟩ := cond_f h
      rw [exec_ev hs hk rfl]
      exact raw_upon h hn
    · obtain ⟨hk, h⟩ := cond_f h
      rw [exec_ev hs hk rfl]
      exact raw_upon h hn
    · exact h.elim
  case h_4 f args at_ hop =>
    simp only at hop; subst hop
    obtain ⟨hk, h⟩ := cond_f h
    rw [exec_ev hs hk rfl]
    split at h
    · rename_i g first captured hf
      split at h
      · rename_i fn hfn
        have he : ev fr f = .func (.func g) first captured := by rw [ev, hf]; rfl
        cases hb : (fn.body.isSome && !(fn.name == "runtime.NumGoroutine")) with
        | false =>
          rw [hb] at h
          obtain ⟨hb2, h⟩ := cond_f h
          have hr : (execOp (ev fr) ⟨dst, .call { callee := .value f, args := args, argTypes := at_ }, type, pos, after, guard⟩).run P w = (callFunc g ((first ++ args.map (ev fr)) ++ captured)).run P w := by
            simp [execOp, resolve, he, Deferred.ofValue, invoke]
          rw [hr]
          exact raw_upon h hn
        | true =>
        rw [hb] at h
        replace h : CallsV P g ((first ++ args.map (ev fr)) ++ captured) w fun v w' => ERt (rtOf P type) fun u => v = u ∧ K u w' := h
        simp only [Bool.and_eq_true, Bool.not_eq_true'] at hb
        have hbody : fn.body ≠ none := by intro hx; rw [hx] at hb; exact absurd hb.1 (by simp)
        have hname : fn.name ≠ "runtime.NumGoroutine" := by simpa using hb.2
        have hr : (execOp (ev fr) ⟨dst, .call { callee := .value f, args := args, argTypes := at_ }, type, pos, after, guard⟩).run P w = .ok (.enter g ((first ++ args.map (ev fr)) ++ captured)) w := by
          simp [execOp, resolve, he, Deferred.ofValue, invoke, callFunc, program, Sem.run, hfn, hname, hbody]
        rw [hr]
        refine Calls.mono h fun e w' hh => ?_
        obtain ⟨v, rfl, hv⟩ := hh
        obtain ⟨u, rfl, hk⟩ := ERt.out hv
        exact hn _ _ hk
      · exact h.elim
    · exact h.elim
  case h_5 hop =>
    simp only at hop; subst hop
    obtain ⟨hk, w', hr, hK⟩ := cond_f h
    rw [exec_ev hs hk rfl, hr]
    exact hn _ _ hK
  case h_6 hop =>
    simp only at hop; subst hop
    obtain ⟨hk, h⟩ := cond_f h
    rw [exec_ev hs hk rfl]
    exact raw_upon h hn
  case h_7 hop =>
    simp only at hop; subst hop
    obtain ⟨hk, h⟩ := cond_f h
    rw [exec_ev hs hk rfl]
    exact raw_upon h hn
  case h_8 =>
    obtain ⟨hk, h⟩ := cond_f h
    simp only [Bool.and_eq_true] at hk
    rw [exec_ev hs hk.2 hk.1]
    split at h
    · rename_i v w' hr; rw [hr]; exact hn _ _ h
    · rename_i w' hr; rw [hr]; exact hn _ _ h
    · exact h.elim

/-- One operation. -/
def LOp (P : Program) (o : Oper) (fr : Fr) (w : World) (K : Value → World → Prop) : Prop :=
  cond (quietB P o.op) (LQuiet P o fr (fun p v => w.cell? p = some v) fun v => K v w) (LLoud P o fr w K)

theorem LOp.wp {w : World} {K : Value → World → Prop} {next : Act → World → Prop} {Q : Exit → Act → World → Prop} (hs : St n fr a) (h : LOp P o fr w K)
    (hn : ∀ v w', K v w' → next (a.put o.dst v) w') : o.wp P a w next Q := by
  unfold LOp at h
  cases hq : quietB P o.op with
  | false => rw [hq] at h; exact LLoud.wp hs h hn
  | true =>
    rw [hq] at h
    obtain ⟨v, hk, hr⟩ := LQuiet.out hs h
    unfold Oper.wp
    rw [hr w fun _ _ h => h]
    exact hn _ _ hk

/-! a region in the order of its text -/

def putK (n : Nat) (dst : Option Tmp) (v : Value) (fr : Fr) (K : Fr → Prop) : Prop :=
  match dst with
  | none => K fr
  | some d => cond (Nat.blt d n) (K ((d, v) :: fr)) False

theorem putK.out {dst : Option Tmp} {v : Value} {K : Fr → Prop} (hs : St n fr a) (h : putK n dst v fr K) : ∃ fr', St n fr' (a.put dst v) ∧ K fr' := by
  cases dst with
  | none => exact ⟨fr, hs, h⟩
  | some d =>
    obtain ⟨hd, h⟩ := cond_f h
    exact ⟨_, hs.put (by simpa [Nat.blt_eq] using hd) v, h⟩

/-- the slot that a guard looks at -/
def slotOf (ops : Array Oper) (j : Nat) : Option Tmp := (ops[j]?).bind (·.dst)

/-- What is done under an operation's guard: 'run' where it is wanted, 'no' where it is not; both are told the guard's value. -/
def LGuard (ops : Array Oper) (g : Option (Nat × Bool)) (fr : Fr) (run no : Fr → Prop) : Prop :=
  match g with
  | none => run fr
  | some (j, b) =>
    match slotOf ops j with
    | none => False
    | some t =>
      match fget fr t with
      | some (.bool c) => cond c (cond b (run ((t, .bool true) :: fr)) (no ((t, .bool true) :: fr))) (cond b (no ((t, .bool false) :: fr)) (run ((t, .bool false) :: fr)))
      | some (.tuple _) => no fr
      | _ => False

theorem LGuard.out {ops : Array Oper} {run no : Fr → Prop} (hs : St n fr a) (h : LGuard ops o.guard fr run no) :
    (Region.wanted o (yielded ops a.tmps) = true ∧ ∃ fr', St n fr' a ∧ run fr') ∨ (Region.wanted o (yielded ops a.tmps) = false ∧ ∃ fr', St n fr' a ∧ no fr') := by
  unfold LGuard at h
  unfold Region.wanted
  split at h
  · rename_i hg; rw [hg]; exact .inl ⟨rfl, fr, hs, h⟩
  · rename_i j b hg
    rw [hg]
    split at h
    · exact h.elim
    · rename_i t ht
      have hy : ∀ v, fget fr t = some v → yielded ops a.tmps j = match some v with | some (.bool b) => some b | _ => none := by
        intro v hv
        unfold yielded
        unfold slotOf at ht
        rw [ht]
        simp only [Option.bind_some, hs.fits t v hv]
        cases v <;> rfl
      split at h
      · rename_i c hc
        simp only [hy _ hc]
        cases c <;> cases b <;> simp only [cond_true, cond_false] at h
        · exact .inl ⟨rfl, _, hs.again hc, h⟩
        · exact .inr ⟨rfl, _, hs.again hc, h⟩
        · exact .inr ⟨rfl, _, hs.again hc, h⟩
        · exact .inl ⟨rfl, _, hs.again hc, h⟩
      · rename_i c hc
        simp only [hy _ hc]
        exact .inr ⟨by cases b <;> rfl, _, hs, h⟩
      · exact h.elim

def LOps (P : Program) (n : Nat) (ops : Array Oper) (K : Fr → World → Prop) : List Oper → Fr → World → Prop
  | [], fr, w => K fr w
  | o :: rest, fr, w =>
    LGuard ops o.guard fr (fun fr => LOp P o fr w fun v w' => putK n o.dst v fr fun fr => LOps P n ops K rest fr w') (fun fr => putK n o.dst undef fr fun fr => LOps P n ops K rest fr w)

theorem LOps.wp {ops : Array Oper} {Q : Exit → Act → World → Prop} {K : Fr → World → Prop} (hK : ∀ fr a w, K fr w → St n fr a → Q .normal a w) :
    ∀ (l : List Oper) (fr : Fr) (a : Act) (w : World), LOps P n ops K l fr w → St n fr a → wpList P ops Q l a w
  | [], fr, a, w, h, hs => hK _ _ _ h hs
  | o :: rest, fr, a, w, h, hs => by
    unfold LOps at h
    refine wpList_step fun K' hK' => ?_
    rcases LGuard.out hs h with ⟨hw, fr', hs', h⟩ | ⟨hw, fr', hs', h⟩
    · rw [if_pos hw]
      refine LOp.wp hs' h fun v w' hv => ?_
      obtain ⟨fr2, hs2, h2⟩ := putK.out hs' hv
      exact hK' _ _ (LOps.wp hK rest fr2 _ w' h2 hs2)
    · rw [if_neg (by simp [hw])]
      obtain ⟨fr2, hs2, h2⟩ := putK.out hs' h
      exact hK' _ _ (LOps.wp hK rest fr2 _ w h2 hs2)

end

/-! regions that draw their order -/
section
variable {P : Program} {n : Nat} {fr : Fr} {a : Act} {o : Oper}

/-- All operations only read and reckon: the order of the text. -/
def LOpsQ (P : Program) (n : Nat) (ops : Array Oper) (C : Addr → Value → Prop) (K : Fr → Prop) : List Oper → Fr → Prop
  | [], fr => K fr
  | o :: rest, fr =>
    LGuard ops o.guard fr (fun fr => LQuiet P o fr C fun v => putK n o.dst v fr fun fr => LOpsQ P n ops C K rest fr) (fun fr => putK n o.dst undef fr fun fr => LOpsQ P n ops C K rest fr)

theorem LOpsQ.wp {ops : Array Oper} {C : Addr → Value → Prop} {D : World → Prop} {K : Fr → Prop} {Q : Act → Prop} (hC : ∀ w, D w → ∀ q u, C q u → w.cell? q = some u) (hK : ∀ fr a, K fr → St n fr a → Q a) :
    ∀ (l : List Oper) (fr : Fr) (a : Act), LOpsQ P n ops C K l fr → St n fr a → wpQuiet P ops D Q l a
  | [], fr, a, h, hs => hK _ _ h hs
  | o :: rest, fr, a, h, hs => by
    unfold LOpsQ at h
    refine wpQuiet_step fun K' hK' => ?_
    rcases LGuard.out hs h with ⟨hw, fr', hs', h⟩ | ⟨hw, fr', hs', h⟩
    · rw [if_pos hw]
      obtain ⟨v, hv, hr⟩ := LQuiet.out hs' h
      obtain ⟨fr2, hs2, h2⟩ := putK.out hs' hv
      refine ⟨v, fun w hw' => ?_, hK' _ (LOpsQ.wp hC hK rest fr2 _ h2 hs2)⟩
      unfold Oper.quietAt
      rw [hr w (hC w hw')]
      exact ⟨rfl, rfl⟩
    · rw [if_neg (by simp [hw])]
      obtain ⟨fr2, hs2, h2⟩ := putK.out hs' h
      exact hK' _ (LOpsQ.wp hC hK rest fr2 _ h2 hs2)

/-- the first operation that may come up, only reads, and may be taken first -/
def pickQ (P : Program) (ops : Array Oper) (listed : Array Bool) : List Nat → Option Nat
  | [] => none
  | i :: r => cond ((match ops[i]? with | some o => quietB P o.op | none => false) && Region.free .any ops listed i) (some i) (pickQ P ops listed r)

theorem pickQ_mem {ops : Array Oper} {listed : Array Bool} {i : Nat} : ∀ {l : List Nat}, pickQ P ops listed l = some i → i ∈ l ∧ Region.free .any ops listed i = true
  | [], h => by cases h
  | j :: r, h => by
    unfold pickQ at h
    cases hc : ((match ops[j]? with | some o => quietB P o.op | none => false) && Region.free .any ops listed j) with
    | false => rw [hc] at h; have := pickQ_mem h; exact ⟨List.mem_cons_of_mem _ this.1, this.2⟩
    | true =>
      rw [hc] at h
      obtain rfl := Option.some.inj h
      simp only [Bool.and_eq_true] at hc
      exact ⟨List.mem_cons_self, hc.2⟩

/-- 'F' of each of a list -/
def AllL (F : Nat → Prop) : List Nat → Prop
  | [] => True
  | [i] => F i
  | i :: r => F i ∧ AllL F r


theorem AllL.mem {F : Nat → Prop} : ∀ {l : List Nat}, AllL F l → ∀ i ∈ l, F i
  | [], _, _, h => by cases h
  | [j], h, i, hi => by simp at hi; subst hi; exact h
  | j :: k :: r, h, i, hi => by
    rcases List.mem_cons.1 hi with rfl | hi
    · exact h.1
    · exact AllL.mem h.2 i hi

/-! which loads may still be to come: each operation with those it waits for, as numbers of bits -/

def upOne (P : List Nat) (o : Oper) : Nat := o.after.foldl (fun m e => cond (Region.binds .any e && Nat.blt e.on P.length) (m ||| ((1 <<< e.on) ||| P.getD e.on 0)) m) 0
def ups : List Oper → List Nat → List Nat
  | [], acc => acc
  | o :: r, acc => ups r (acc ++ [upOne acc o])

def Closed (ops : Array Oper) (L : Array Bool) : Prop := ∀ (j : Nat) (o : Oper), ops[j]? = some o → L.getD j false = true → ∀ e ∈ o.after, Region.binds .any e = true → L.getD e.on false = true

def UpOk (ops : Array Oper) (T : List Nat) : Prop := ∀ (j k : Nat), (T.getD j 0).testBit k = true → ∀ L, Closed ops L → L.getD j false = true → L.getD k false = true

theorem upOne_ok {ops : Array Oper} {acc : List Nat} {o : Oper} {j : Nat} (hacc : UpOk ops acc) (hj : ops[j]? = some o) {k : Nat} (h : (upOne acc o).testBit k = true) {L : Array Bool} (hc : Closed ops L) (hL : L.getD j false = true) : L.getD k false = true := by
  unfold upOne at h
  rw [← Array.foldl_toList] at h
  have : ∀ (l : List _) (m : Nat), (∀ e ∈ l, e ∈ o.after) → (l.foldl (fun m e => cond (Region.binds .any e && Nat.blt e.on acc.length) (m ||| ((1 <<< e.on) ||| acc.getD e.on 0)) m) m).testBit k = true → m.testBit k = true ∨ L.getD k false = true := by
    intro l
    induction l with
    | nil => intro m _ h; exact .inl h
    | cons e l ih =>
      intro m hl h
      rw [List.foldl_cons] at h
      rcases ih _ (fun e he => hl e (List.mem_cons_of_mem _ he)) h with h | h
      · cases hb : (Region.binds .any e && Nat.blt e.on acc.length) with
        | false => rw [hb] at h; exact .inl h
        | true =>
          rw [hb] at h
          simp only [cond_true, Nat.testBit_or, Bool.or_eq_true] at h
          simp only [Bool.and_eq_true] at hb
          have he := hc j o hj hL e (hl e List.mem_cons_self) hb.1
          rcases h with h | h | h
          · exact .inl h
          · right
            rw [Nat.one_shiftLeft, Nat.testBit_two_pow, decide_eq_true_eq] at h
            rw [← h]; exact he
          · exact .inr (hacc e.on k h L hc he)
      · exact .inr h
  rcases this _ 0 (fun e he => by simpa using he) h with h | h
  · simp at h
  · exact h

theorem ups_ok {ops : Array Oper} : ∀ (l : List Oper) (acc : List Nat), (∀ j, acc.length ≤ j → ops[j]? = l[j - acc.length]?) → UpOk ops acc → UpOk ops (ups l acc)
  | [], acc, _, h => h
  | o :: r, acc, hl, h => by
    unfold ups
    refine ups_ok r _ (fun j hj => ?_) ?_
    · simp only [List.length_append, List.length_cons, List.length_nil] at hj ⊢
      have := hl j (by omega)
      rw [this, show j - acc.length = (j - (acc.length + 1)) + 1 by omega, List.getElem?_cons_succ, Nat.zero_add]
    · intro j k hk L hc hL
      by_cases hj : j < acc.length
      · refine h j k ?_ L hc hL
        rw [List.getD_eq_getElem?_getD, List.getElem?_append_left hj] at hk
        rw [List.getD_eq_getElem?_getD]; exact hk
      · by_cases hj' : j = acc.length
        · subst hj'
          rw [List.getD_eq_getElem?_getD, List.getElem?_append_right (Nat.le_refl _)] at hk
          simp at hk
          have h0 := hl acc.length (Nat.le_refl _)
          simp at h0
          exact upOne_ok h h0 hk hc hL
        · rw [List.getD_eq_getElem?_getD, List.getElem?_eq_none (by simp; omega)] at hk
          simp at hk

def isLoad : Op → Bool
  | .load _ _ => true
  | _ => false
/-- the loads, as bits -/
def loadBits : List Oper → Nat → Nat
  | [], _ => 0
  | o :: r, i => cond (isLoad o.op) ((1 <<< i) ||| loadBits r (i + 1)) (loadBits r (i + 1))
/-- what has surely been taken when what is listed and loud has been -/
def goneBits (P : Program) (L : Array Bool) : List Oper → List Nat → Nat → Nat
  | o :: r, m :: T, i => cond (!quietB P o.op && L.getD i false) (m ||| goneBits P L r T (i + 1)) (goneBits P L r T (i + 1))
  | _, _, _ => 0
def needB (P : Program) (ops : Array Oper) (L : Array Bool) : Bool :=
  !Nat.beq (loadBits ops.toList 0 ||| goneBits P L ops.toList (ups ops.toList []) 0) (goneBits P L ops.toList (ups ops.toList []) 0)

theorem loadBits_at : ∀ (l : List Oper) (i j : Nat) (o : Oper), l[j]? = some o → isLoad o.op = true → (loadBits l i).testBit (i + j) = true
  | [], _, _, _, h, _ => by simp at h
  | o' :: r, i, 0, o, h, ho => by
    simp at h; subst h
    unfold loadBits
    rw [ho, cond_true, Nat.testBit_or, Nat.testBit_shiftLeft]
    simp
  | o' :: r, i, j + 1, o, h, ho => by
    have ih := loadBits_at r (i + 1) j o (by simpa using h) ho
    rw [show i + 1 + j = i + (j + 1) by omega] at ih
    unfold loadBits
    cases isLoad o'.op
    · exact ih
    · rw [cond_true, Nat.testBit_or, ih, Bool.or_true]

theorem goneBits_at {P : Program} {L : Array Bool} : ∀ (l : List Oper) (T : List Nat) (i k : Nat), (goneBits P L l T i).testBit k = true → ∃ j, (T.getD j 0).testBit k = true ∧ L.getD (i + j) false = true
  | [], T, _, _, h => by simp [goneBits] at h
  | _ :: _, [], _, _, h => by simp [goneBits] at h
  | o :: r, m :: T, i, k, h => by
    unfold goneBits at h
    have next : (goneBits P L r T (i + 1)).testBit k = true → ∃ j, ((m :: T).getD j 0).testBit k = true ∧ L.getD (i + j) false = true := fun h => by
      obtain ⟨j, h1, h2⟩ := goneBits_at r T (i + 1) k h
      exact ⟨j + 1, by simpa using h1, by rw [show i + (j + 1) = i + 1 + j by omega]; exact h2⟩
    cases hc : (!quietB P o.op && L.getD i false) with
    | false => rw [hc] at h; exact next h
    | true =>
      rw [hc, cond_true, Nat.testBit_or, Bool.or_eq_true] at h
      simp only [Bool.and_eq_true] at hc
      rcases h with h | h
      · exact ⟨0, by simpa using h, by simpa using hc.2⟩
      · exact next h

theorem goneBits_quiet {P : Program} {L : Array Bool} {q : Nat} : ∀ (l : List Oper) (T : List Nat) (i : Nat), (∀ o, i ≤ q → l[q - i]? = some o → quietB P o.op = true) → goneBits P (L.setIfInBounds q true) l T i = goneBits P L l T i
  | [], T, _, _ => rfl
  | _ :: _, [], _, _ => rfl
  | o :: r, m :: T, i, h => by
    unfold goneBits
    have ih := goneBits_quiet (P := P) (L := L) (q := q) r T (i + 1) (fun o' hi ho => h o' (by omega) (by rw [show q - i = (q - (i + 1)) + 1 by omega]; simpa using ho))
    rw [ih]
    by_cases hq : q = i
    · subst hq
      have := h o (Nat.le_refl _) (by simp)
      rw [this]; rfl
    · rw [getD_set_ne false hq]

theorem goneBits_more {P : Program} {L : Array Bool} {q : Nat} : ∀ (l : List Oper) (T : List Nat) (i k : Nat), (goneBits P L l T i).testBit k = true → (goneBits P (L.setIfInBounds q true) l T i).testBit k = true
  | [], T, _, _, h => h
  | _ :: _, [], _, _, h => h
  | o :: r, m :: T, i, k, h => by
    unfold goneBits at h ⊢
    have ih := goneBits_more (P := P) (L := L) (q := q) r T (i + 1) k
    cases hL : L.getD i false with
    | false =>
      rw [hL, Bool.and_false, cond_false] at h
      cases (!quietB P o.op && (L.setIfInBounds q true).getD i false)
      · exact ih h
      · rw [cond_true, Nat.testBit_or, ih h, Bool.or_true]
    | true =>
      rw [getD_set_true hL]
      rw [hL] at h
      cases hq : quietB P o.op
      · rw [hq] at h
        simp only [Bool.not_false, Bool.and_true, cond_true, Nat.testBit_or, Bool.or_eq_true] at h ⊢
        rcases h with h | h
        · exact .inl h
        · exact .inr (ih h)
      · rw [hq] at h; exact ih h

theorem needB_load {P : Program} {ops : Array Oper} {L : Array Bool} {i : Nat} {o : Oper} (hc : Closed ops L) (hi : ops[i]? = some o) (ho : isLoad o.op = true) (hL : L.getD i false = false) : needB P ops L = true := by
  unfold needB
  rw [Bool.not_eq_true']
  cases hb : Nat.beq (loadBits ops.toList 0 ||| goneBits P L ops.toList (ups ops.toList []) 0) (goneBits P L ops.toList (ups ops.toList []) 0) with
  | false => rfl
  | true =>
    exfalso
    have he := Nat.eq_of_beq_eq_true hb
    have h1 := loadBits_at ops.toList 0 i o (by simpa using hi) ho
    rw [Nat.zero_add] at h1
    have h2 : (goneBits P L ops.toList (ups ops.toList []) 0).testBit i = true := by rw [← he, Nat.testBit_or, h1, Bool.true_or]
    obtain ⟨j, hj, hl⟩ := goneBits_at _ _ _ _ h2
    rw [Nat.zero_add] at hl
    have hu : UpOk ops (ups ops.toList []) := ups_ok ops.toList [] (fun j _ => by simp) (fun j k h => by simp at h)
    rw [hu j i hj L hc hl] at hL
    cases hL

theorem needB_quiet {P : Program} {ops : Array Oper} {L : Array Bool} {i : Nat} {o : Oper} (hi : ops[i]? = some o) (ho : quietB P o.op = true) : needB P ops (L.setIfInBounds i true) = needB P ops L := by
  unfold needB
  rw [goneBits_quiet ops.toList _ 0 (fun o' _ h => by
    have : ops[i]? = some o' := by simpa using h
    rw [hi] at this; cases this; exact ho)]

theorem needB_less {P : Program} {ops : Array Oper} {L : Array Bool} {i : Nat} (h : needB P ops (L.setIfInBounds i true) = true) : needB P ops L = true := by
  unfold needB at *
  rw [Bool.not_eq_true'] at *
  cases hb : Nat.beq (loadBits ops.toList 0 ||| goneBits P L ops.toList (ups ops.toList []) 0) (goneBits P L ops.toList (ups ops.toList []) 0) with
  | false => rfl
  | true =>
    exfalso
    have he := Nat.eq_of_beq_eq_true hb
    have : Nat.beq (loadBits ops.toList 0 ||| goneBits P (L.setIfInBounds i true) ops.toList (ups ops.toList []) 0) (goneBits P (L.setIfInBounds i true) ops.toList (ups ops.toList []) 0) = true := by
      have heq : loadBits ops.toList 0 ||| goneBits P (L.setIfInBounds i true) ops.toList (ups ops.toList []) 0 = goneBits P (L.setIfInBounds i true) ops.toList (ups ops.toList []) 0 := by
        apply Nat.eq_of_testBit_eq
        intro k
        rw [Nat.testBit_or]
        cases hk : (loadBits ops.toList 0).testBit k with
        | false => rfl
        | true =>
          have : (goneBits P L ops.toList (ups ops.toList []) 0).testBit k = true := by rw [← he, Nat.testBit_or, hk, Bool.true_or]
          rw [goneBits_more _ _ _ _ this]; rfl
      rw [heq]
      exact Nat.beq_refl _
    rw [this] at h; cases h

/-! whatever order is drawn: S holds as long as a load may be to come -/

def wpAnyG (P : Program) (ops : Array Oper) (Q : Exit → Act → World → Prop) (S : World → Prop) : Nat → Array Bool → Act → World → Prop
  | 0, listed, a, w => Region.ready .any ops listed = [] ∧ Q .normal a w
  | fuel + 1, listed, a, w =>
    (Region.ready .any ops listed = [] → Q .normal a w) ∧
    ∀ i ∈ Region.ready .any ops listed, wpOp P ops Q i (fun a' w' => (needB P ops (listed.setIfInBounds i true) = true → S w') ∧ wpAnyG P ops Q S fuel (listed.setIfInBounds i true) a' w') a w

theorem wpAny_of_G {ops : Array Oper} {Q : Exit → Act → World → Prop} {S : World → Prop} : ∀ (fuel : Nat) (listed : Array Bool) (a : Act) (w : World), wpAnyG P ops Q S fuel listed a w → wpAny P .any ops Q fuel listed a w
  | 0, _, _, _, h => h
  | fuel + 1, _, _, _, h => ⟨h.1, fun i hi => wpOp_mono (fun a' w' h' => wpAny_of_G fuel _ a' w' h'.2) (h.2 i hi)⟩

theorem Closed.ready {ops : Array Oper} {L : Array Bool} {j : Nat} (hc : Closed ops L) (hj : j ∈ Region.ready .any ops L) : Closed ops (L.setIfInBounds j true) := by
  obtain ⟨hun, o, ho, hall⟩ := mem_ready.1 hj
  intro k ok hk hL e he hb
  by_cases hkj : j = k
  · subst hkj
    rw [ho] at hk; cases hk
    exact getD_set_true (hall e he hb)
  · rw [getD_set_ne false hkj] at hL
    exact getD_set_true (hc k ok hk hL e he hb)

theorem unlisted {L : Array Bool} {j : Nat} (h : L.getD j true = false) : L.getD j false = false := by
  rcases Nat.lt_or_ge j L.size with h' | h'
  · simp [h'] at h ⊢; exact h
  · simp [Array.getElem?_eq_none h'] at h

theorem wpAnyG_first {ops : Array Oper} {Q : Exit → Act → World → Prop} {S S' : World → Prop} {i : Nat} {oi : Oper} {v : Value} (hi : ops[i]? = some oi) (hq : quietB P oi.op = true) (hsel : ∀ (j : Nat) (o : Oper) cs b, ops[j]? = some o → o.op ≠ .select cs b)
    (hQ : ∀ c a w, Q (.panic c) (a.put oi.dst v) w → Q (.panic c) a w) (hS' : ∀ L w, Closed ops L → L.getD i false = false → (needB P ops L = true → S w) → S' w) :
    ∀ (fuel : Nat) (listed : Array Bool) (a : Act) (w : World), Closed ops listed →
      (∀ j oj, ops[j]? = some oj → j ≠ i → listed.getD j true = false → (∀ e ∈ oj.after, Region.binds .any e = true → e.on ≠ i) → oi.apart ops oj = true) →
      i ∈ Region.ready .any ops listed → YieldsIf P ops S' oi v a → (needB P ops listed = true → S w) →
      wpAnyG P ops Q S fuel (listed.setIfInBounds i true) (a.put oi.dst v) w → wpAnyG P ops Q S (fuel + 1) listed a w := by
  intro fuel
  induction fuel with
  | zero =>
    intro listed a w hc _ hr hy hS H
    refine ⟨fun h => (by rw [h] at hr; cases hr), fun j hj => ?_⟩
    by_cases hji : j = i
    · subst hji
      refine hy.wpOp hi (hS' listed w hc (unlisted (mem_ready.1 hr).1) hS) ⟨fun h => hS (by rw [needB_quiet hi hq] at h; exact h), H⟩
    · have := ready_mono hj hji
      rw [H.1] at this
      cases this
  | succ fuel ih =>
    intro listed a w hc hfree hr hy hS H
    refine ⟨fun h => (by rw [h] at hr; cases hr), fun j hj => ?_⟩
    by_cases hji : j = i
    · subst hji
      refine hy.wpOp hi (hS' listed w hc (unlisted (mem_ready.1 hr).1) hS) ⟨fun h => hS (by rw [needB_quiet hi hq] at h; exact h), H⟩
    · have h1 := H.2 j (ready_mono hj hji)
      obtain ⟨hjun, oj, hoj, hall⟩ := mem_ready.1 hj
      have hnot : ∀ e ∈ oj.after, Region.binds .any e = true → e.on ≠ i := fun e he hb heq => by
        have h1 := hall e he hb
        have h0 := unlisted (mem_ready.1 hr).1
        rw [heq, h0] at h1
        cases h1
      have h2 := wpOp_putIf hoj (hfree j oj hoj hji hjun hnot) (fun cs b => hsel i oi cs b hi) (fun cs b => hsel j oj cs b hoj) hQ hy h1
      have hfree' : ∀ k ok, ops[k]? = some ok → k ≠ i → (listed.setIfInBounds j true).getD k true = false →
          (∀ e ∈ ok.after, Region.binds .any e = true → e.on ≠ i) → oi.apart ops ok = true := fun k ok hk hki hun hno => by
        refine hfree k ok hk hki ?_ hno
        by_cases hjk : j = k
        · subst hjk; exact hjun
        · rw [getD_set_ne true hjk] at hun; exact hun
      refine wpOp_mono (fun a' w' h3 => ?_) h2
      have hcomm : (listed.setIfInBounds j true).setIfInBounds i true = (listed.setIfInBounds i true).setIfInBounds j true := Array.setIfInBounds_comm _ _ hji
      have hS2 : needB P ops (listed.setIfInBounds j true) = true → S w' := fun h => h3.2.1 (by rw [← hcomm, needB_quiet hi hq]; exact h)
      refine ⟨hS2, ih (listed.setIfInBounds j true) a' w' (hc.ready hj) hfree' (ready_mono hr (Ne.symm hji)) h3.1 hS2 ?_⟩
      rw [hcomm]
      exact h3.2.2

theorem LQuiet_noC {K : Value → Prop} {C C' : Addr → Value → Prop} (ho : isLoad o.op = false) (h : LQuiet P o fr C K) : LQuiet P o fr C' K := by
  obtain ⟨dst, op, type, pos, after, guard⟩ := o
  cases op <;> first | (cases ho; done) | exact h | (rename_i y _; cases y <;> first | exact h | (rename_i v; cases v <;> exact h))

def depB : List Oper → List Nat → Nat → Bool
  | o :: r, m :: T, i => cond (isLoad o.op && !Nat.beq (m &&& (1 <<< i)) 0) true (depB r T i)
  | _, _, _ => false

/-- what is to hold behind a loud operation: where a load waits for it, more may be told than ahead of it -/
def more (b : Bool) (S : World → Prop) (w : World) (F : (World → Prop) → Prop) : Prop := cond b (∃ S' : World → Prop, (∀ x, S' x → S x) ∧ S' w ∧ F S') (S w ∧ F S)

theorem more.out {b : Bool} {S : World → Prop} {w : World} {F : (World → Prop) → Prop} (h : more b S w F) : ∃ S' : World → Prop, (∀ x, S' x → S x) ∧ S' w ∧ F S' := by
  cases b
  · exact ⟨S, fun _ h => h, h⟩
  · exact h

theorem wpAnyG_mono {ops : Array Oper} {Q : Exit → Act → World → Prop} {S S' : World → Prop} (hS : ∀ x, S' x → S x) : ∀ (fuel : Nat) (listed : Array Bool) (a : Act) (w : World), wpAnyG P ops Q S' fuel listed a w → wpAnyG P ops Q S fuel listed a w
  | 0, _, _, _, h => h
  | fuel + 1, _, _, _, h => ⟨h.1, fun i hi => wpOp_mono (fun a' w' h' => ⟨fun hn => hS _ (h'.1 hn), wpAnyG_mono hS fuel _ a' w' h'.2⟩) (h.2 i hi)⟩

def LAny (P : Program) (n : Nat) (ops : Array Oper) : (World → Prop) → (Fr → World → Prop) → Nat → Array Bool → Fr → World → Prop
  | S, K, 0, listed, fr, w => match Region.ready .any ops listed with
    | [] => K fr w
    | _ => False
  | S, K, f + 1, listed, fr, w =>
    match Region.ready .any ops listed with
    | [] => K fr w
    | r :: rs =>
      match pickQ P ops listed (r :: rs) with
      | some i =>
        match ops[i]? with
        | some o => LGuard ops o.guard fr (fun fr => LQuiet P o fr (fun p v => ∀ x, S x → x.cell? p = some v) fun v => putK n o.dst v fr fun fr => LAny P n ops S K f (listed.setIfInBounds i true) fr w)
            (fun fr => putK n o.dst undef fr fun fr => LAny P n ops S K f (listed.setIfInBounds i true) fr w)
        | none => False
      | none => AllL (fun i =>
        match ops[i]? with
        | some o => LGuard ops o.guard fr (fun fr => LOp P o fr w fun v w' => cond (needB P ops (listed.setIfInBounds i true)) (more (depB ops.toList (ups ops.toList []) i) S w' fun S => putK n o.dst v fr fun fr => LAny P n ops S K f (listed.setIfInBounds i true) fr w') (putK n o.dst v fr fun fr => LAny P n ops S K f (listed.setIfInBounds i true) fr w'))
            (fun fr => putK n o.dst undef fr fun fr => LAny P n ops S K f (listed.setIfInBounds i true) fr w)
        | none => False) (r :: rs)

theorem pickQ_quiet {ops : Array Oper} {listed : Array Bool} {i : Nat} {o : Oper} (ho : ops[i]? = some o) : ∀ {l : List Nat}, pickQ P ops listed l = some i → quietB P o.op = true
  | [], h => by cases h
  | j :: r, h => by
    unfold pickQ at h
    cases hc : ((match ops[j]? with | some o => quietB P o.op | none => false) && Region.free .any ops listed j) with
    | false => rw [hc] at h; exact pickQ_quiet ho h
    | true =>
      rw [hc] at h
      obtain rfl := Option.some.inj h
      simp only [Bool.and_eq_true] at hc
      rw [ho] at hc
      exact hc.1

theorem cond_and {b : Bool} {p q : Prop} (h : cond b (p ∧ q) q) : (b = true → p) ∧ q := by
  cases b
  · exact ⟨fun h => (by cases h), h⟩
  · exact ⟨fun _ => h.1, h.2⟩

theorem LAny.wp {ops : Array Oper} {K : Fr → World → Prop} {Q : Exit → Act → World → Prop} (hsel : Region.noSelect ops = true) (hK : ∀ fr a w, K fr w → St n fr a → Q .normal a w) :
    ∀ (S : World → Prop) (f : Nat) (listed : Array Bool) (fr : Fr) (a : Act) (w : World), Closed ops listed → (needB P ops listed = true → S w) → LAny P n ops S K f listed fr w → St n fr a → wpAnyG P ops (NoPanic Q) S f listed a w
  | S, 0, listed, fr, a, w, _, _, h, hs => by
    unfold LAny at h
    split at h
    · rename_i hr; exact ⟨hr, hK _ _ _ h hs⟩
    · exact h.elim
  | S, f + 1, listed, fr, a, w, hc, hS, h, hs => by
    unfold LAny at h
    split at h
    · rename_i hr; exact ⟨fun _ => hK _ _ _ h hs, (by rw [hr]; simp)⟩
    · rename_i r rs hr
      split at h
      · rename_i i hp
        obtain ⟨hmem, hfree⟩ := pickQ_mem hp
        split at h
        · rename_i o ho
          have hq := pickQ_quiet ho hp
          have hrd : i ∈ Region.ready .any ops listed := by rw [hr]; exact hmem
          have take : ∀ (S' : World → Prop) v fr', (∀ L w, Closed ops L → L.getD i false = false → (needB P ops L = true → S w) → S' w) → YieldsIf P ops S' o v a → St n fr' (a.put o.dst v) → LAny P n ops S K f (listed.setIfInBounds i true) fr' w → wpAnyG P ops (NoPanic Q) S (f + 1) listed a w := fun S' v fr' hS' hy hs' h' =>
            wpAnyG_first ho hq (Region.noSelect_spec hsel) (fun c a w h => h) hS' f listed a w hc (Region.free_spec ho hfree) hrd hy hS
              (LAny.wp hsel hK S f _ fr' _ w (hc.ready hrd) (fun hn => hS (by rw [needB_quiet ho hq] at hn; exact hn)) h' hs')
          rcases LGuard.out hs h with ⟨hw, fr', hs', h⟩ | ⟨hw, fr', hs', h⟩
          · cases hl : isLoad o.op with
            | true =>
              obtain ⟨v, hv, hrun⟩ := LQuiet.out hs' h
              obtain ⟨fr2, hs2, h2⟩ := putK.out hs' hv
              exact take S v fr2 (fun L w hcl hun hSw => hSw (needB_load hcl ho hl hun)) (.inl ⟨hw, fun x hx => hrun x fun q u hqu => hqu x hx⟩) hs2 h2
            | false =>
              obtain ⟨v, hv, hrun⟩ := LQuiet.out hs' (LQuiet_noC (C' := fun _ _ => False) hl h)
              obtain ⟨fr2, hs2, h2⟩ := putK.out hs' hv
              exact take (fun _ => True) v fr2 (fun _ _ _ _ _ => trivial) (.inl ⟨hw, fun x _ => hrun x fun q u hqu => hqu.elim⟩) hs2 h2
          · obtain ⟨fr2, hs2, h2⟩ := putK.out hs' h
            exact take (fun _ => True) undef fr2 (fun _ _ _ _ _ => trivial) (.inr ⟨hw, rfl⟩) hs2 h2
        · exact h.elim
      · refine ⟨fun h0 => (by rw [h0] at hr; cases hr), fun i hi => ?_⟩
        have hrd := hi
        rw [hr] at hi
        have h := AllL.mem h i hi
        unfold wpOp
        split at h
        · rename_i o ho
          rw [ho]
          rcases LGuard.out hs h with ⟨hw, fr', hs', h⟩ | ⟨hw, fr', hs', h⟩
          · simp only [hw, if_true]
            refine .inl (LOp.wp hs' h fun v w' hv => ?_)
            cases hn : needB P ops (listed.setIfInBounds i true) with
            | false =>
              rw [hn, cond_false] at hv
              obtain ⟨fr2, hs2, h2⟩ := putK.out hs' hv
              exact ⟨fun h => (by cases h), LAny.wp hsel hK S f _ fr2 _ w' (hc.ready hrd) (fun h => by rw [hn] at h; cases h) h2 hs2⟩
            | true =>
              rw [hn, cond_true] at hv
              obtain ⟨S', hSS, hS', hv⟩ := more.out hv
              obtain ⟨fr2, hs2, h2⟩ := putK.out hs' hv
              exact ⟨fun _ => hSS _ hS', wpAnyG_mono hSS _ _ _ _ (LAny.wp hsel hK S' f _ fr2 _ w' (hc.ready hrd) (fun _ => hS') h2 hs2)⟩
          · simp only [hw, Bool.false_eq_true, if_false]
            obtain ⟨fr2, hs2, h2⟩ := putK.out hs' h
            have hS2 : needB P ops (listed.setIfInBounds i true) = true → S w := fun hn => hS (needB_less hn)
            exact ⟨hS2, LAny.wp hsel hK S f _ fr2 _ w (hc.ready hrd) hS2 h2 hs2⟩
        · exact h.elim

/-- A region. -/
def LRegion (P : Program) (n : Nat) (ops : Array Oper) (draw : Bool) (K : Fr → World → Prop) (fr : Fr) (w : World) : Prop :=
  cond draw
    (cond (ops.toList.all fun o => quietB P o.op)
      (cond (Region.lexB .any ops) (LOpsQ P n ops (fun p v => w.cell? p = some v) (fun fr => K fr w.drew) ops.toList fr) False)
      (cond (Region.noSelect ops) (∃ S : World → Prop, S w.drew ∧ LAny P n ops S K ops.size (Array.replicate ops.size false) fr w.drew) False))
    (LOps P n ops K ops.toList fr w)

theorem LRegion.wp {id : Nat} {ops : Array Oper} {draw : Bool} {K : Fr → World → Prop} {Q : Exit → Act → World → Prop} {w : World} (hm : P.follows .mixedOrders = true) (hK : ∀ fr a w, K fr w → St n fr a → Q .normal a w)
    (h : LRegion P n ops draw K fr w) (hs : St n fr a) : (Code.region id ops draw).wp P Q a w := by
  unfold LRegion at h
  cases draw with
  | false => exact wp_region_list (LOps.wp hK _ _ _ _ h hs)
  | true =>
    simp only [cond_true] at h
    cases hq : ops.toList.all fun o => quietB P o.op with
    | true =>
      rw [hq] at h
      obtain ⟨hl, h⟩ := cond_f h
      refine wp_region_quiet (C := fun x => x = w.drew) hm hl rfl ?_
      refine LOpsQ.wp (C := fun p v => w.cell? p = some v) (fun x hx q u hqu => by rw [hx]; exact hqu) (fun fr a hk hs => ?_) _ _ _ h hs
      intro w' hw'
      subst hw'
      exact hK _ _ _ hk hs
    | false =>
      rw [hq] at h
      obtain ⟨hl, S, hS, h⟩ := cond_f h
      refine wp_region_noPanic (wp_region_any hm (wpAny_of_G _ _ _ _ (LAny.wp hl hK _ _ _ _ _ _ ?_ (fun _ => hS) h hs)))
      intro j o _ hL
      simp [Array.getElem?_replicate] at hL
      split at hL <;> cases hL

end

/-! the code of a function, its regions named, cut where ways meet again -/

inductive LC where
  | leaf (c : Code) | seq (a b : LC) | cnd (c : Operand) (x y : LC) | block (id : Nat) (c : LC) | loop (k : Nat) (c : LC) | cut (k : Nat) (c : LC) | prim (k : Nat) (c : Code)

def LC.code : LC → Code
  | .leaf c => c
  | .seq a b => .seq a.code b.code
  | .cnd c x y => .cond c x.code y.code
  | .block id c => .block id c.code
  | .loop _ c => .loop c.code
  | .cut _ c => c.code
  | .prim _ c => c

def cL : Code → Code
  | .seq a _ => a
  | c => c
def cR : Code → Code
  | .seq _ b => b
  | c => c
def cT : Code → Code
  | .cond _ a _ => a
  | c => c
def cE : Code → Code
  | .cond _ _ b => b
  | c => c
def cB : Code → Code
  | .block _ b => b
  | .loop b => b
  | c => c
def bd (f : Func) : Code := f.body.getD .skip

section
variable (P : Program) (n : Nat)

def LLeaf (c : Code) (Q : Exit → Fr → World → Prop) (fr : Fr) (w : World) : Prop :=
  match c with
  | .region _ ops draw => LRegion P n ops draw (Q .normal) fr w
  | .skip => Q .normal fr w
  | .ret => Q .ret fr w
  | .exit id => Q (.exit id) fr w
  | _ => False

/-- behind a first part: the second -/
def qThen (K : Fr → World → Prop) (Q : Exit → Fr → World → Prop) : Exit → Fr → World → Prop
  | .normal => K
  | x => Q x
def qBlock (id : Nat) (Q : Exit → Fr → World → Prop) : Exit → Fr → World → Prop
  | .exit id' => cond (Nat.beq id' id) (Q .normal) (Q (.exit id'))
  | x => Q x

def LSem (J : Nat → Fr → World → Prop) : LC → (Exit → Fr → World → Prop) → Fr → World → Prop
  | .leaf c, Q => LLeaf P n c Q
  | .seq a b, Q => LSem J a (qThen (LSem J b Q) Q)
  | .cnd c x y, Q => fun fr w =>
    match evo fr c with
    | some (.bool t) => cond t (LSem J x Q fr w) (LSem J y Q fr w)
    | _ => False
  | .block id c, Q => LSem J c (qBlock id Q)
  | .loop k _, _ => J k
  | .cut k _, _ => J k
  | .prim k _, _ => J k

/-- 'Qs' at the frames serves 'Q' at the slots. -/
def Serves (Qs : Exit → Fr → World → Prop) (Q : Exit → Act → World → Prop) : Prop := ∀ x fr a w, Qs x fr w → St n fr a → Q x a w

/-- What is owed of the cuts and loops. -/
def Defs (J : Nat → Fr → World → Prop) : LC → (Exit → Fr → World → Prop) → Prop
  | .leaf _, _ => True
  | .seq a b, Q => Defs J a (qThen (LSem P n J b Q) Q) ∧ Defs J b Q
  | .cnd _ x y, Q => Defs J x Q ∧ Defs J y Q
  | .block id c, Q => Defs J c (qBlock id Q)
  | .loop k c, Qs => ∀ Q, Serves n Qs Q → ∀ fr a w, J k fr w → St n fr a → (Code.loop c.code).wp P Q a w
  | .cut k c, Qs => (∀ fr a w, J k fr w → St n fr a → ∃ fr', St n fr' a ∧ LSem P n J c Qs fr' w) ∧ Defs J c Qs
  | .prim k c, Qs => ∀ Q, Serves n Qs Q → ∀ fr a w, J k fr w → St n fr a → c.wp P Q a w

variable {P n}

theorem mkLeaf {J : Nat → Fr → World → Prop} {c : Code} {Q : Exit → Fr → World → Prop} : Defs P n J (.leaf c) Q := trivial
theorem mkSeq {J : Nat → Fr → World → Prop} {a b : LC} {Q : Exit → Fr → World → Prop} (h2 : Defs P n J b Q) (h1 : Defs P n J a (qThen (LSem P n J b Q) Q)) : Defs P n J (.seq a b) Q := ⟨h1, h2⟩
theorem mkCnd {J : Nat → Fr → World → Prop} {c : Operand} {a b : LC} {Q : Exit → Fr → World → Prop} (h1 : Defs P n J a Q) (h2 : Defs P n J b Q) : Defs P n J (.cnd c a b) Q := ⟨h1, h2⟩
theorem mkBlock {J : Nat → Fr → World → Prop} {id : Nat} {c : LC} {Q : Exit → Fr → World → Prop} (h : Defs P n J c (qBlock id Q)) : Defs P n J (.block id c) Q := h
theorem mkCut {J : Nat → Fr → World → Prop} {k : Nat} {c : LC} {Q : Exit → Fr → World → Prop} (h1 : ∀ fr a w, J k fr w → St n fr a → ∃ fr', St n fr' a ∧ LSem P n J c Q fr' w) (h2 : Defs P n J c Q) : Defs P n J (.cut k c) Q := ⟨h1, h2⟩
theorem mkLoop {J : Nat → Fr → World → Prop} {k : Nat} {c : LC} {Qs : Exit → Fr → World → Prop} (h : ∀ Q, Serves n Qs Q → ∀ fr a w, J k fr w → St n fr a → (Code.loop c.code).wp P Q a w) : Defs P n J (.loop k c) Qs := h

theorem mkPrim {J : Nat → Fr → World → Prop} {k : Nat} {c : Code} {Qs : Exit → Fr → World → Prop} (h : ∀ Q, Serves n Qs Q → ∀ fr a w, J k fr w → St n fr a → c.wp P Q a w) : Defs P n J (.prim k c) Qs := h

theorem sound (hm : P.follows .mixedOrders = true) {J : Nat → Fr → World → Prop} : ∀ (c : LC) (Qs : Exit → Fr → World → Prop) (Q : Exit → Act → World → Prop), Serves n Qs Q → Defs P n J c Qs →
    ∀ fr a w, LSem P n J c Qs fr w → St n fr a → c.code.wp P Q a w
  | .leaf c, Qs, Q, hQ, _, fr, a, w, h, hs => by
    unfold LSem LLeaf at h
    unfold LC.code
    split at h
    · exact LRegion.wp hm (fun fr a w hk hs => hQ _ _ _ _ hk hs) h hs
    · exact wp_skip (hQ _ _ _ _ h hs)
    · exact wp_ret (hQ _ _ _ _ h hs)
    · exact wp_exit (hQ _ _ _ _ h hs)
    · exact h.elim
  | .seq x y, Qs, Q, hQ, hd, fr, a, w, h, hs => by
    unfold LSem at h
    unfold LC.code
    refine wp_seq (sound hm x _ _ ?_ hd.1 fr a w h hs)
    intro e fr' a' w' hq hs'
    cases e with
    | normal => exact sound hm y Qs Q hQ hd.2 fr' a' w' hq hs'
    | exit id => exact hQ _ _ _ _ hq hs'
    | goto l => exact hQ _ _ _ _ hq hs'
    | ret => exact hQ _ _ _ _ hq hs'
    | panic ch => exact hQ _ _ _ _ hq hs'
    | outgrown => exact hQ _ _ _ _ hq hs'
  | .cnd c x y, Qs, Q, hQ, hd, fr, a, w, h, hs => by
    unfold LSem at h
    unfold LC.code
    split at h
    · rename_i t ht
      refine wp_cond (t := t) (hs.eval ht) ?_
      cases t with
      | false => exact sound hm y Qs Q hQ hd.2 fr a w h hs
      | true => exact sound hm x Qs Q hQ hd.1 fr a w h hs
    · exact h.elim
  | .block id c, Qs, Q, hQ, hd, fr, a, w, h, hs => by
    unfold LSem at h
    unfold LC.code
    refine wp_block (sound hm c _ _ ?_ hd fr a w h hs)
    intro e fr' a' w' hq hs'
    cases e with
    | normal => exact hQ _ _ _ _ hq hs'
    | exit id' =>
      have hq : (cond (Nat.beq id' id) (Qs .normal) (Qs (.exit id'))) fr' w' := hq
      show (if id' = id then Q .normal a' w' else Q (.exit id') a' w')
      cases hb : Nat.beq id' id with
      | true =>
        rw [hb] at hq
        rw [if_pos (Nat.eq_of_beq_eq_true hb)]
        exact hQ _ _ _ _ hq hs'
      | false =>
        rw [hb] at hq
        rw [if_neg (Nat.ne_of_beq_eq_false hb)]
        exact hQ _ _ _ _ hq hs'
    | goto l => exact hQ _ _ _ _ hq hs'
    | ret => exact hQ _ _ _ _ hq hs'
    | panic ch => exact hQ _ _ _ _ hq hs'
    | outgrown => exact hQ _ _ _ _ hq hs'
  | .loop k c, Qs, Q, hQ, hd, fr, a, w, h, hs => by
    unfold LSem at h
    exact hd Q hQ fr a w h hs
  | .cut k c, Qs, Q, hQ, hd, fr, a, w, h, hs => by
    unfold LSem at h
    obtain ⟨fr', hs', h'⟩ := hd.1 fr a w h hs
    exact sound hm c Qs Q hQ hd.2 fr' a w h' hs'
  | .prim k c, Qs, Q, hQ, hd, fr, a, w, h, hs => by
    unfold LSem at h
    exact hd Q hQ fr a w h hs

end

/-! typed frames -/

structure Sl where
  a : Option Addr
  len : Nat
  cap : Nat

/-- what a function value has caught: addresses -/
def Caps : Nat → Type
  | 0 => Unit
  | 1 => Addr
  | n + 2 => Addr × Caps (n + 1)
def capsV : (n : Nat) → Caps n → List Value
  | 0, _ => []
  | 1, x => [.pointer (some x)]
  | n + 2, x => .pointer (some x.1) :: capsV (n + 1) x.2
def rdAddr : Value → Option Addr
  | .pointer (some x) => some x
  | _ => none
theorem rdAddr_out {v : Value} {x : Addr} (h : rdAddr v = some x) : v = .pointer (some x) := by
  unfold rdAddr at h
  split at h <;> simp_all
def rdCaps : (n : Nat) → List Value → Option (Caps n)
  | 0 => fun l => match l with
    | [] => some ()
    | _ => none
  | 1 => fun l => match l with
    | [v] => rdAddr v
    | _ => none
  | n + 2 => fun l => match l with
    | v :: r => match rdAddr v, rdCaps (n + 1) r with
      | some a, some b => some (a, b)
      | _, _ => none
    | _ => none
theorem rdCaps_out : ∀ {n : Nat} {l : List Value} {x : Caps n}, rdCaps n l = some x → l = capsV n x
  | 0, [], _, _ => rfl
  | 0, _ :: _, _, h => by cases h
  | 1, [], x, h => by cases h
  | 1, [v], x, h => by rw [rdAddr_out (show rdAddr v = some x from h)]; rfl
  | 1, _ :: _ :: _, x, h => by cases h
  | n + 2, [], x, h => by cases h
  | n + 2, v :: r, x, h => by
    have h : (match rdAddr v, rdCaps (n + 1) r with
      | some a, some b => some (a, b)
      | _, _ => none) = some x := h
    split at h
    · rename_i a b h1 h2
      obtain rfl := Option.some.inj h
      rw [rdAddr_out h1, rdCaps_out h2]; rfl
    · cases h
theorem rdCaps_capsV : ∀ (n : Nat) (x : Caps n), rdCaps n (capsV n x) = some x
  | 0, _ => rfl
  | 1, _ => rfl
  | n + 2, x => by
    show (match some x.1, rdCaps (n + 1) (capsV (n + 1) x.2) with
      | some a, some b => some (a, b)
      | _, _ => none) = some x
    rw [rdCaps_capsV (n + 1) x.2]; rfl
def rdFn (g n : Nat) : Value → Option (Caps n)
  | .func (.func g') fs cs => cond (Nat.beq g' g) (cond (Nat.beq fs.size 0) (rdCaps n cs.toList) none) none
  | _ => none
theorem rdFn_out {g n : Nat} {v : Value} {x : Caps n} (h : rdFn g n v = some x) : v = .func (.func g) #[] (capsV n x).toArray := by
  unfold rdFn at h
  split at h
  · rename_i g' fs cs
    cases h1 : Nat.beq g' g with
    | false => rw [h1] at h; cases h
    | true =>
      rw [h1] at h
      cases h2 : Nat.beq fs.size 0 with
      | false => rw [h2] at h; cases h
      | true =>
        rw [h2] at h
        have h3 := rdCaps_out (show rdCaps n cs.toList = some x from h)
        obtain rfl := Nat.eq_of_beq_eq_true h1
        have h4 := Array.eq_empty_of_size_eq_zero (Nat.eq_of_beq_eq_true h2)
        rw [h4, ← h3]
  · cases h
theorem rdFn_enc (g n : Nat) (x : Caps n) : rdFn g n (.func (.func g) #[] (capsV n x).toArray) = some x := by
  simp [rdFn, rdCaps_capsV]

/-- a cell's type; and those of a struct -/
def T1.T0 : T1 → Type
  | .int _ => Int
  | .bool => Bool
  | .str => ByteArray
  | .ptr => Option Addr
  | .slice => Sl
  | .map => Option Nat
  | .any => Value
  | .addr => Addr
  | .fn _ _ => Value
  | .agg _ => Value
def T1.enc0 : (t : T1) → t.T0 → Value
  | .int k, x => .int k x
  | .bool, x => .bool x
  | .str, x => .string x
  | .ptr, x => .pointer x
  | .slice, x => .slice x.a x.len x.cap
  | .map, x => .map x
  | .any, x => x
  | .addr, x => .pointer (some x)
  | .fn _ _, x => x
  | .agg _, x => x
def read0 : (t : T1) → Value → Option t.T0
  | .int k => fun v => match v with
    | .int k' x => cond (decide (k' = k)) (some x) none
    | _ => none
  | .bool => fun v => match v with
    | .bool x => some x
    | _ => none
  | .str => fun v => match v with
    | .string x => some x
    | _ => none
  | .ptr => fun v => match v with
    | .pointer x => some x
    | _ => none
  | .slice => fun v => match v with
    | .slice a len cap => some ⟨a, len, cap⟩
    | _ => none
  | .map => fun v => match v with
    | .map x => some x
    | _ => none
  | .any => fun v => some v
  | .addr => fun v => match v with
    | .pointer (some x) => some x
    | _ => none
  | .fn _ _ => fun v => some v
  | .agg _ => fun v => some v
theorem read0_enc (t : T1) (x : t.T0) : read0 t (t.enc0 x) = some x := by
  cases t with
  | int k => show cond (decide (k = k)) (some x) none = some x; rw [decide_eq_true rfl]; rfl
  | _ => rfl
theorem read0_out {t : T1} {v : Value} {x : t.T0} (h : read0 t v = some x) : v = t.enc0 x := by
  cases t with
  | int k =>
    cases v with
    | int k' y =>
      have h : cond (decide (k' = k)) (some y) none = some x := h
      by_cases e : k' = k
      · rw [decide_eq_true e] at h; subst e; obtain rfl := Option.some.inj h; rfl
      · rw [decide_eq_false e] at h; cases h
    | _ => cases h
  | bool => cases v <;> first | (obtain rfl := Option.some.inj h; rfl) | cases h
  | str => cases v <;> first | (obtain rfl := Option.some.inj h; rfl) | cases h
  | ptr => cases v <;> first | (obtain rfl := Option.some.inj h; rfl) | cases h
  | slice => cases v <;> first | (obtain rfl := Option.some.inj h; rfl) | cases h
  | map => cases v <;> first | (obtain rfl := Option.some.inj h; rfl) | cases h
  | any => obtain rfl := Option.some.inj h; rfl
  | addr =>
    cases v with
    | pointer p => cases p <;> first | (obtain rfl := Option.some.inj h; rfl) | cases h
    | _ => cases h
  | fn g n => obtain rfl := Option.some.inj h; rfl
  | agg l => obtain rfl := Option.some.inj h; rfl
def TL : List T1 → Type
  | [] => Unit
  | [t] => t.T0
  | t :: u :: r => t.T0 × TL (u :: r)
def encL : (l : List T1) → TL l → List Value
  | [], _ => []
  | [t], x => [t.enc0 x]
  | t :: u :: r, x => t.enc0 x.1 :: encL (u :: r) x.2
def readL : (l : List T1) → List Value → Option (TL l)
  | [] => fun vs => match vs with
    | [] => some ()
    | _ => none
  | [t] => fun vs => match vs with
    | [v] => read0 t v
    | _ => none
  | t :: u :: r => fun vs => match vs with
    | v :: vs => match read0 t v, readL (u :: r) vs with
      | some a, some b => some (a, b)
      | _, _ => none
    | _ => none
theorem readL_out : ∀ {l : List T1} {vs : List Value} {x : TL l}, readL l vs = some x → vs = encL l x
  | [], [], _, _ => rfl
  | [], _ :: _, _, h => by cases h
  | [t], [], x, h => by cases h
  | [t], [v], x, h => by rw [read0_out (show read0 t v = some x from h)]; rfl
  | [t], _ :: _ :: _, x, h => by cases h
  | t :: u :: r, [], x, h => by cases h
  | t :: u :: r, v :: vs, x, h => by
    have h : (match read0 t v, readL (u :: r) vs with
      | some a, some b => some (a, b)
      | _, _ => none) = some x := h
    split at h
    · rename_i a b h1 h2
      obtain rfl := Option.some.inj h
      rw [read0_out h1, readL_out h2]; rfl
    · cases h
theorem readL_enc : ∀ (l : List T1) (x : TL l), readL l (encL l x) = some x
  | [], _ => rfl
  | [t], x => read0_enc t x
  | t :: u :: r, x => by
    show (match read0 t (t.enc0 x.1), readL (u :: r) (encL (u :: r) x.2) with
      | some a, some b => some (a, b)
      | _, _ => none) = some x
    rw [read0_enc, readL_enc (u :: r) x.2]; rfl
def readAgg (l : List T1) : Value → Option (TL l)
  | .agg cs => readL l cs.toList
  | _ => none
theorem readAgg_out {l : List T1} {v : Value} {x : TL l} (h : readAgg l v = some x) : v = .agg (encL l x).toArray := by
  unfold readAgg at h
  split at h
  · rename_i cs
    rw [← readL_out h]
  · cases h
theorem readAgg_enc (l : List T1) (x : TL l) : readAgg l (.agg (encL l x).toArray) = some x := by
  show readL l (encL l x).toArray.toList = some x
  rw [List.toList_toArray]; exact readL_enc l x

def T1.T : T1 → Type
  | .int _ => Int
  | .bool => Bool
  | .str => ByteArray
  | .ptr => Option Addr
  | .slice => Sl
  | .map => Option Nat
  | .any => Value
  | .addr => Addr
  | .fn _ n => Caps n
  | .agg l => TL l

def T1.enc : (t : T1) → t.T → Value
  | .int k, x => .int k x
  | .bool, x => .bool x
  | .str, x => .string x
  | .ptr, x => .pointer x
  | .slice, x => .slice x.a x.len x.cap
  | .map, x => .map x
  | .any, x => x
  | .addr, x => .pointer (some x)
  | .fn g n, x => .func (.func g) #[] (capsV n x).toArray
  | .agg l, x => .agg (encL l x).toArray

/-- what a slot holds, read by its type -/
def decV (t : T1) (v : Option Value) (F : t.T → Prop) : Prop :=
  match t, v, F with
  | .int k, some (.int k' x), F => cond (decide (k' = k)) (F x) False
  | .bool, some (.bool x), F => F x
  | .str, some (.string x), F => F x
  | .ptr, some (.pointer x), F => F x
  | .slice, some (.slice a len cap), F => F ⟨a, len, cap⟩
  | .map, some (.map x), F => F x
  | .any, some x, F => F x
  | .addr, some (.pointer (some x)), F => F x
  | .fn g n, some v, F => match rdFn g n v with
    | some x => F x
    | none => False
  | .agg l, some v, F => match readAgg l v with
    | some x => F x
    | none => False
  | _, _, _ => False

theorem decV.out {t : T1} {v : Option Value} {F : t.T → Prop} (h : decV t v F) : ∃ x, v = some (t.enc x) ∧ F x := by
  unfold decV at h
  split at h
  · obtain ⟨hk, h⟩ := cond_f h
    have := of_decide_eq_true hk
    subst this
    exact ⟨_, rfl, h⟩
  all_goals first | exact ⟨_, rfl, h⟩ | exact h.elim | skip
  · split at h
    · rename_i x hx
      exact ⟨x, by rw [rdFn_out hx]; rfl, h⟩
    · exact h.elim
  · split at h
    · rename_i x hx
      exact ⟨x, by rw [readAgg_out hx]; rfl, h⟩
    · exact h.elim

abbrev Vars := List (Nat × T1)

def Tys : Vars → Type
  | [] => Unit
  | [x] => x.2.T
  | x :: y :: r => x.2.T × Tys (y :: r)

def dec : (l : Vars) → Fr → (Tys l → Prop) → Prop
  | [], _, F => F ()
  | [x], fr, F => decV x.2 (fget fr x.1) F
  | x :: y :: r, fr, F => decV x.2 (fget fr x.1) fun v => dec (y :: r) fr fun vs => F (v, vs)

def mkF : (l : Vars) → Tys l → Fr
  | [], _ => []
  | [x], v => [(x.1, x.2.enc v)]
  | x :: y :: r, v => (x.1, x.2.enc v.1) :: mkF (y :: r) v.2

theorem St.nil {n : Nat} {fr : Fr} {a : Act} (h : St n fr a) : St n [] a := ⟨h.size, h.defers, fun t v hv => by cases hv⟩

theorem St.cons {n : Nat} {fr fr' : Fr} {a : Act} (h : St n fr a) (h' : St n fr' a) {t : Nat} {v : Value} (hv : fget fr t = some v) : St n ((t, v) :: fr') a := by
  refine ⟨h.size, h.defers, fun s u hu => ?_⟩
  by_cases hts : t = s
  · subst hts
    rw [fget_cons_self] at hu
    obtain rfl := Option.some.inj hu
    exact h.fits _ _ hv
  · rw [fget_cons_ne _ _ hts] at hu
    exact h'.fits s u hu

theorem dec.out {n : Nat} {fr : Fr} {a : Act} (hs : St n fr a) : ∀ {l : Vars} {F : Tys l → Prop}, dec l fr F → ∃ x, St n (mkF l x) a ∧ F x
  | [], F, h => ⟨(), hs.nil, h⟩
  | [x], F, h => by
    obtain ⟨v, hv, hF⟩ := decV.out h
    exact ⟨v, hs.cons hs.nil hv, hF⟩
  | x :: y :: r, F, h => by
    obtain ⟨v, hv, h⟩ := decV.out h
    obtain ⟨vs, hs', hF⟩ := dec.out hs h
    exact ⟨(v, vs), hs.cons hs' hv, hF⟩

/-- A cut, by what stands at it. -/
theorem cutDef {P : Program} {n : Nat} {J : Nat → Fr → World → Prop} {k : Nat} {c : LC} {Qs : Exit → Fr → World → Prop} (l : Vars) (F : Tys l → World → Prop) (hJ : ∀ fr w, J k fr w = dec l fr fun x => F x w)
    (hF : ∀ x w, F x w = LSem P n J c Qs (mkF l x) w) : ∀ fr a w, J k fr w → St n fr a → ∃ fr', St n fr' a ∧ LSem P n J c Qs fr' w := by
  intro fr a w h hs
  rw [hJ] at h
  obtain ⟨x, hs', hx⟩ := dec.out hs h
  exact ⟨_, hs', by rw [← hF]; exact hx⟩

def readV : (t : T1) → Value → Option t.T
  | .int k => fun v => match v with
    | .int k' x => cond (decide (k' = k)) (some x) none
    | _ => none
  | .bool => fun v => match v with
    | .bool x => some x
    | _ => none
  | .str => fun v => match v with
    | .string x => some x
    | _ => none
  | .ptr => fun v => match v with
    | .pointer x => some x
    | _ => none
  | .slice => fun v => match v with
    | .slice a len cap => some ⟨a, len, cap⟩
    | _ => none
  | .map => fun v => match v with
    | .map x => some x
    | _ => none
  | .any => fun v => some v
  | .addr => fun v => match v with
    | .pointer (some x) => some x
    | _ => none
  | .fn g n => fun v => rdFn g n v
  | .agg l => fun v => readAgg l v
theorem readV_enc (t : T1) (x : t.T) : readV t (t.enc x) = some x := by
  cases t with
  | int k => show cond (decide (k = k)) (some x) none = some x; rw [decide_eq_true rfl]; rfl
  | fn g n => exact rdFn_enc g n x
  | agg l => exact readAgg_enc l x
  | bool => rfl
  | str => rfl
  | ptr => rfl
  | slice => rfl
  | map => rfl
  | any => rfl
  | addr => rfl

def readF : (l : Vars) → Array Value → Option (Tys l)
  | [], _ => some ()
  | [x], a => (a[x.1]?).bind (readV x.2)
  | x :: y :: r, a => ((a[x.1]?).bind (readV x.2)).bind fun v => (readF (y :: r) a).map fun vs => (v, vs)

def distinct : Vars → Bool
  | [] => true
  | x :: r => (r.all fun y => !Nat.beq x.1 y.1) && distinct r

theorem fget_skip {t : Nat} {v : Value} {fr : Fr} {s : Nat} (h : Nat.beq t s = false) : fget ((t, v) :: fr) s = fget fr s := by simp [fget, h]

theorem readF_st {a : Act} : ∀ {l : Vars} {x : Tys l}, distinct l = true → (∀ t v, fget (mkF l x) t = some v → a.tmps[t]? = some v) → readF l a.tmps = some x
  | [], _, _, _ => rfl
  | [x], v, _, h => by
    have := h x.1 (x.2.enc v) (by simp [mkF, fget])
    simp only [readF, this]
    exact readV_enc x.2 v
  | x :: y :: r, v, hd, h => by
    have h0 := h x.1 (x.2.enc v.1) (by simp [mkF, fget])
    simp only [distinct, Bool.and_eq_true] at hd
    have ih := readF_st (a := a) (l := y :: r) (x := v.2) (by simpa [distinct] using hd.2) (fun t u hu => by
      refine h t u ?_
      cases hb : Nat.beq x.1 t with
      | false => simp only [mkF]; rw [fget_skip hb]; exact hu
      | true =>
        exfalso
        have hxt := Nat.eq_of_beq_eq_true hb
        have : ∀ (l : Vars) (x' : Tys l), (l.all fun y => !Nat.beq t y.1) = true → fget (mkF l x') t = none := by
          intro l
          induction l with
          | nil => intro _ _; rfl
          | cons z r ih =>
            intro x' hall
            simp only [List.all_cons, Bool.and_eq_true, Bool.not_eq_true'] at hall
            have hz : Nat.beq z.1 t = false := by
              cases hb : Nat.beq z.1 t with
              | false => rfl
              | true => rw [Nat.eq_of_beq_eq_true hb] at hall; simp at hall
            cases r with
            | nil => simp only [mkF]; rw [fget_skip hz]; rfl
            | cons z' r' => simp only [mkF]; rw [fget_skip hz]; exact ih _ hall.2
        rw [this (y :: r) v.2 (by rw [← hxt]; exact hd.1)] at hu
        cases hu)
    simp only [readF, h0, Option.bind_some, readV_enc, ih]
    rfl

/-- **A LOOP**: by a relation of what it carries, and a measure. -/
theorem loopDef {P : Program} {n : Nat} (hm : P.follows .mixedOrders = true) {c : LC} {Qs : Exit → Fr → World → Prop} (l : Vars) (hl : distinct l = true) (B : (Tys l → World → Prop) → Tys l → World → Prop) (J : (Tys l → World → Prop) → Nat → Fr → World → Prop)
    (hB : ∀ N x w, B N x w = LSem P n (J N) c (qThen (fun fr w => dec l fr fun x => N x w) Qs) (mkF l x) w)
    (hD : ∀ N, Defs P n (J N) c (qThen (fun fr w => dec l fr fun x => N x w) Qs))
    (F : Tys l → World → Prop) (hF : ∀ x w, F x w → ∃ (I : Tys l → World → Prop) (μ : Tys l → World → Nat), I x w ∧ ∀ x w, I x w → B (fun x' w' => I x' w' ∧ μ x' w' < μ x w) x w) {J0 : Nat → Fr → World → Prop} {k : Nat} (hJ : ∀ fr w, J0 k fr w = dec l fr fun x => F x w) :
    ∀ Q, Serves n Qs Q → ∀ fr a w, J0 k fr w → St n fr a → (Code.loop c.code).wp P Q a w := by
  intro Q hQ fr a w h hs
  rw [hJ] at h
  obtain ⟨x, hs', hx⟩ := dec.out hs h
  obtain ⟨I, μ, h0, hr⟩ := hF x w hx
  refine wp_loop (fun a w => ∃ x, St n (mkF l x) a ∧ I x w) (fun a w => match readF l a.tmps with | some x => μ x w | none => 0) ⟨x, hs', h0⟩ ?_
  rintro a w ⟨x, hsx, hI⟩
  have hb := hr x w hI
  rw [hB] at hb
  have hrd : readF l a.tmps = some x := readF_st hl hsx.fits
  refine Code.wp_mono ?_ (sound hm c _ (Exit.then (fun a' w' => ∃ x', St n (mkF l x') a' ∧ I x' w' ∧ μ x' w' < μ x w) Q) ?_ (hD _) _ a w hb hsx)
  · intro e a' w' hq
    cases e with
    | normal =>
      obtain ⟨x', hs2, hI2, hlt⟩ := hq
      refine ⟨⟨x', hs2, hI2⟩, ?_⟩
      simp only [hrd, readF_st hl hs2.fits]
      exact hlt
    | exit id => exact hq
    | goto l => exact hq
    | ret => exact hq
    | panic ch => exact hq
    | outgrown => exact hq
  · intro e fr' a' w' hq hs2
    cases e with
    | normal =>
      obtain ⟨x', hs3, hN⟩ := dec.out hs2 hq
      exact ⟨x', hs3, hN⟩
    | exit id => exact hQ _ _ _ _ hq hs2
    | goto l => exact hQ _ _ _ _ hq hs2
    | ret => exact hQ _ _ _ _ hq hs2
    | panic ch => exact hQ _ _ _ _ hq hs2
    | outgrown => exact hQ _ _ _ _ hq hs2

/-! a function -/

def ResL (P : Program) (w : World) : List ResultVar → Fr → (List Value → Prop) → Prop
  | [], _, K => K []
  | .tmp t :: r, fr, K =>
    match fget fr t with
    | some v => ResL P w r fr fun vs => K (v :: vs)
    | none => False
  | .cell t T :: r, fr, K =>
    match fget fr t with
    | some (.pointer (some p)) => Ld P T (fun q v => w.cell? q = some v) p fun v => ResL P w r fr fun vs => K (v :: vs)
    | _ => False

def Res (P : Program) (f : Func) (R : Value → World → Prop) (fr : Fr) (w : World) : Prop :=
  ResL P w f.results.toList fr fun vs => match vs with
    | [v] => R v w
    | vs => R (.tuple vs.toArray) w

def qEnd (P : Program) (f : Func) (R : Value → World → Prop) : Exit → Fr → World → Prop
  | .normal => Res P f R
  | .ret => Res P f R
  | _ => fun _ _ => False

def resF (tmps : Array Value) : ResultVar → Sem Value
  | .tmp t => pure (tmps.getD t undef)
  | .cell a t => do loadVar t (← asAddr (tmps.getD a undef))

theorem results_eq (f : Func) (tmps : Array Value) : results f tmps = (do
  let vs ← f.results.mapM (resF tmps)
  pure (if h : vs.size = 1 then vs[0] else .tuple vs)) := rfl

theorem ResL.out {P : Program} {n : Nat} {a : Act} {w : World} {fr : Fr} (hs : St n fr a) : ∀ {l : List ResultVar} {K : List Value → Prop}, ResL P w l fr K →
    ∃ vs, (l.mapM (resF a.tmps)).run P w = .ok vs w ∧ K vs
  | [], _, h => ⟨[], rfl, h⟩
  | .tmp t :: r, K, h => by
    unfold ResL at h
    split at h
    · rename_i v hv
      obtain ⟨vs, hr, hk⟩ := ResL.out hs h
      refine ⟨v :: vs, ?_, hk⟩
      have := hs.fits t v hv
      have h1 : (resF a.tmps (.tmp t)).run P w = .ok v w := by simp [resF, Array.getD_eq_getD_getElem?, this]
      simp only [List.mapM_cons, Sem.run_bind, h1, Result.andThen_ok, hr, Sem.run_pure]
    · exact h.elim
  | .cell t T :: r, K, h => by
    unfold ResL at h
    split at h
    · rename_i p hv
      obtain ⟨v, h, hld⟩ := Ld.out h
      obtain ⟨vs, hr, hk⟩ := ResL.out hs h
      refine ⟨v :: vs, ?_, hk⟩
      have := hs.fits t _ hv
      have hld := hld w fun _ _ h => h
      have h1 : (resF a.tmps (.cell t T)).run P w = .ok v w := by simp [resF, Array.getD_eq_getD_getElem?, this, asAddr, hld]
      simp only [List.mapM_cons, Sem.run_bind, h1, Result.andThen_ok, hr, Sem.run_pure]
    · exact h.elim

theorem Res.out {P : Program} {n : Nat} {a : Act} {w : World} {fr : Fr} {f : Func} {R : Value → World → Prop} (hs : St n fr a) (h : Res P f R fr w) : ∃ v, (results f a.tmps).run P w = .ok v w ∧ R v w := by
  obtain ⟨vs, hr, hk⟩ := ResL.out hs h
  have hm : (f.results.mapM (resF a.tmps)).run P w = .ok vs.toArray w := by
    rw [Array.mapM_eq_mapM_toList]
    simp only [Sem.run_map, hr, Result.andThen_ok]
  rw [results_eq]
  simp only [Sem.run_bind, hm, Result.andThen_ok, Sem.run_pure]
  match vs, hk with
  | [], hk => exact ⟨_, rfl, hk⟩
  | [v], hk => exact ⟨_, rfl, hk⟩
  | v :: u :: r, hk => exact ⟨_, by rw [dif_neg (by simp)], hk⟩

/-- the slots at the beginning -/
def frameOf : Nat → List Value → Fr
  | _, [] => []
  | i, v :: r => (i, v) :: frameOf (i + 1) r

theorem frameOf_get : ∀ (vs : List Value) (i t : Nat) (v : Value), fget (frameOf i vs) t = some v → i ≤ t ∧ vs[t - i]? = some v
  | [], _, _, _, h => by cases h
  | u :: r, i, t, v, h => by
    unfold frameOf at h
    by_cases hit : i = t
    · subst hit
      rw [fget_cons_self] at h
      exact ⟨Nat.le_refl _, by simpa using h⟩
    · rw [fget_cons_ne _ _ hit] at h
      obtain ⟨h1, h2⟩ := frameOf_get r (i + 1) t v h
      refine ⟨by omega, ?_⟩
      rw [show t - i = (t - (i + 1)) + 1 by omega]
      simpa using h2

/-- **A FUNCTION**: what its code comes to suffices for the call. -/
theorem liftCalls {P : Program} {f : FuncId} {fn : Func} {c : LC} {J : Nat → Fr → World → Prop} {R : Value → World → Prop} {args : Array Value} {w : World} (hm : P.follows .mixedOrders = true) (hf : P.funcs[f]? = some fn) (hb : fn.body = some c.code)
    (hn : Nat.ble args.size fn.ntmps = true) (hd : Defs P fn.ntmps J c (qEnd P fn R)) (h : LSem P fn.ntmps J c (qEnd P fn R) (frameOf 0 args.toList) w) : CallsV P f args w R := by
  refine calls_of_wp hf hb ?_
  have hn' : args.size ≤ fn.ntmps := Nat.le_of_ble_eq_true hn
  refine sound hm c _ _ ?_ hd _ _ w h ⟨by simp; omega, rfl, fun t v hv => ?_⟩
  · intro x fr a w hq hs
    cases x with
    | normal => obtain ⟨v, hr, hR⟩ := Res.out hs hq; exact ⟨hs.defers, v, hr, v, rfl, hR⟩
    | ret => obtain ⟨v, hr, hR⟩ := Res.out hs hq; exact ⟨hs.defers, v, hr, v, rfl, hR⟩
    | exit id => exact hq.elim
    | goto l => exact hq.elim
    | panic ch => exact hq.elim
    | outgrown => exact hq.elim
  · obtain ⟨_, h2⟩ := frameOf_get _ _ _ _ hv
    simp only [Nat.sub_zero] at h2
    have hlt : t < args.size := by
      have := (List.getElem?_eq_some_iff.1 h2).1
      simpa using this
    simp only [Array.getElem?_append, hlt, if_true]
    simpa using h2

theorem kcast {p q : Prop} (h : p = q) (hp : p) : q := h ▸ hp

end Go.Lf
