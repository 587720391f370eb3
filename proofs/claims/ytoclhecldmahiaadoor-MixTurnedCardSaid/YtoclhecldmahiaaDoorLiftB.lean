/-
  Terms: the law of an arena (what a term is, what is put, the keys), and maps from texts to numbers.
-/
import Derived.Test.YtoclhecldmahiaaDoorLiftA
import Derived.Lib.AppendIntMem
import Derived.Lib.ItoaLen
import Derived.Laws.IdiomStrings
import Derived.MapKept
set_option linter.unusedVariables false
namespace Go.Lf
open Go Go.RowKit Go.ChangeShapes
set_option linter.unusedVariables false

theorem inc {k : Nat} (h : k < 9223372036854775807) : IntKind.i64.wrap ((k : Int) + 1) = ((k + 1 : Nat) : Int) := by rw [w64 (by omega)]; omega

/-! numerals -/

def numOf (l : List UInt8) : Nat := l.foldl (fun a c => a * 10 + (c.toNat - 48)) 0

theorem dig_ok {d : Nat} (h : d < 10) : (UInt8.ofNat (48 + d)).toNat = 48 + d := by
  rw [UInt8.toNat_ofNat']; omega

theorem dec_num (u : Nat) : numOf (Lib.decDigits u) = u := by
  induction u using Nat.strongRecOn with
  | _ u ih =>
    by_cases h : u < 10
    · rw [Lib.decDigits, dif_pos h]
      simp only [numOf, List.foldl_cons, List.foldl_nil]
      rw [dig_ok h]; omega
    · rw [Lib.decDigits, dif_neg h]
      have := ih (u / 10) (by omega)
      unfold numOf at this ⊢
      rw [List.foldl_append, this]
      simp only [List.foldl_cons, List.foldl_nil]
      rw [dig_ok (by omega)]; omega

theorem dec_dig (u : Nat) : ∀ c ∈ Lib.decDigits u, 48 ≤ c.toNat := by
  induction u using Nat.strongRecOn with
  | _ u ih =>
    intro c hc
    by_cases h : u < 10
    · rw [Lib.decDigits, dif_pos h, List.mem_singleton] at hc
      subst hc; rw [dig_ok h]; omega
    · rw [Lib.decDigits, dif_neg h, List.mem_append, List.mem_singleton] at hc
      rcases hc with hc | rfl
      · exact ih (u / 10) (by omega) c hc
      · rw [dig_ok (by omega)]; omega

theorem dec_inj {u v : Nat} (h : Lib.decDigits u = Lib.decDigits v) : u = v := by rw [← dec_num u, h, dec_num v]

theorem itoa_big (n : Int) : ∀ c ∈ Lib.itoa n, c ≠ 32 := by
  intro c hc he
  subst he
  unfold Lib.itoa at hc
  split at hc
  · rcases List.mem_cons.1 hc with hc | hc
    · exact absurd hc (by decide)
    · exact absurd (dec_dig _ _ hc) (by decide)
  · exact absurd (dec_dig _ _ hc) (by decide)

theorem itoa_inj {m n : Int} (h : Lib.itoa m = Lib.itoa n) : m = n := by
  have no : ∀ (l : List UInt8) (u : Nat), Lib.decDigits u = 45 :: l → False := fun l u e => by
    have := dec_dig u 45 (by rw [e]; simp)
    exact absurd this (by decide)
  unfold Lib.itoa at h
  split at h <;> split at h
  · have := dec_inj (List.cons.inj h).2; omega
  · exact absurd h.symm (fun e => no _ _ e)
  · exact absurd h (fun e => no _ _ e)
  · have := dec_inj h; omega

/-- numbers, with a blank behind each -/
def textOf (l : List Int) : List UInt8 := l.flatMap fun x => Lib.itoa x ++ [32]

theorem split_blank : ∀ (a b : List UInt8) {r s : List UInt8}, (∀ c ∈ a, c ≠ 32) → (∀ c ∈ b, c ≠ 32) → a ++ 32 :: r = b ++ 32 :: s → a = b ∧ r = s
  | [], [], r, s, _, _, h => ⟨rfl, (List.cons.inj h).2⟩
  | [], y :: b, r, s, _, hb, h => absurd (List.cons.inj h).1.symm (hb y (by simp))
  | x :: a, [], r, s, ha, _, h => absurd (List.cons.inj h).1 (ha x (by simp))
  | x :: a, y :: b, r, s, ha, hb, h => by
    obtain ⟨h1, h2⟩ := List.cons.inj h
    obtain ⟨h3, h4⟩ := split_blank a b (fun c hc => ha c (by simp [hc])) (fun c hc => hb c (by simp [hc])) h2
    exact ⟨by rw [h1, h3], h4⟩

theorem text_cons (x : Int) (l : List Int) : textOf (x :: l) = Lib.itoa x ++ 32 :: textOf l := by simp [textOf]

theorem text_inj : ∀ {l m : List Int}, textOf l = textOf m → l = m
  | [], [], _ => rfl
  | [], y :: m, h => by rw [text_cons] at h; simp [textOf] at h
  | x :: l, [], h => by rw [text_cons] at h; simp [textOf] at h
  | x :: l, y :: m, h => by
    rw [text_cons, text_cons] at h
    obtain ⟨h1, h2⟩ := split_blank _ _ (itoa_big x) (itoa_big y) h
    rw [itoa_inj h1, text_inj h2]

/-! terms -/

structure Tm where
  kind : Int
  n : Int
  args : List Int
deriving DecidableEq

def Tm.key (t : Tm) : ByteArray := ⟨(textOf (t.kind :: t.n :: t.args)).toArray⟩
theorem Tm.key_inj {t u : Tm} (h : t.key = u.key) : t = u := by
  have h1 : (textOf (t.kind :: t.n :: t.args)).toArray = (textOf (u.kind :: u.n :: u.args)).toArray := congrArg ByteArray.data h
  have h2 := text_inj (List.toArray_inj h1)
  cases t; cases u
  simp only [List.cons.injEq] at h2
  obtain ⟨rfl, rfl, rfl⟩ := h2
  rfl

def least (kind : Int) : Nat := if kind = 1 ∨ kind = 2 then 0 else if kind = 4 ∨ kind = 5 then 1 else if kind = 6 ∨ kind = 8 then 1 else if kind = 7 then 2 else 0
def mostOf (kind : Int) : Nat := if kind = 1 ∨ kind = 2 then 0 else if kind = 4 ∨ kind = 5 then 1 else 400
def numbered (kind : Int) : Prop := kind = 1 ∨ kind = 2 ∨ kind = 4
instance (kind : Int) : Decidable (numbered kind) := by unfold numbered; infer_instance

def inT (T : List Tm) (x : Int) : Prop := 0 ≤ x ∧ x < T.length
instance (T : List Tm) (x : Int) : Decidable (inT T x) := by unfold inT; infer_instance

/-- what is said of a term that is told to an arena of the terms T (0: it may be) -/
def errOf (T : List Tm) (t : Tm) : Int :=
  if ¬ (1 ≤ t.kind ∧ t.kind ≤ 9) then 6 else if t.n < 0 ∨ 0 < t.n ∧ ¬ numbered t.kind then 1 else if t.args.length < least t.kind ∨ mostOf t.kind < t.args.length then 2
  else if ¬ ∀ x ∈ t.args, inT T x then 8 else 0

def place (T : List Tm) (t : Tm) : Option Nat := T.findIdx? fun u => decide (u = t)

def put (T : List Tm) (t : Tm) : List Tm × Int × Int :=
  if errOf T t ≠ 0 then (T, 0, errOf T t) else
  match place T t with
  | some i => (T, (i : Int), 0)
  | none => if 1048576 ≤ T.length then (T, 0, 7) else (T ++ [t], (T.length : Int), 0)

/-- the arenas that come of putting -/
structure TOk (T : List Tm) : Prop where
  few : T.length ≤ 1048576
  good : ∀ (i : Nat) (t : Tm), T[i]? = some t → errOf (T.take i) t = 0
  once : ∀ (i j : Nat) (t : Tm), T[i]? = some t → T[j]? = some t → i = j

theorem TOk.nil : TOk [] := ⟨by simp, by simp, by simp⟩

theorem place_some {T : List Tm} {t : Tm} {i : Nat} (h : place T t = some i) : T[i]? = some t := by
  unfold place at h
  rw [List.findIdx?_eq_some_iff_getElem] at h
  obtain ⟨h1, h2, _⟩ := h
  simp at h2
  rw [List.getElem?_eq_getElem h1, h2]
theorem place_none {T : List Tm} {t : Tm} (h : place T t = none) : ∀ u ∈ T, u ≠ t := by
  unfold place at h
  rw [List.findIdx?_eq_none_iff] at h
  intro u hu
  simpa using h u hu
theorem TOk.place {T : List Tm} (h : TOk T) {t : Tm} {i : Nat} (hi : T[i]? = some t) : place T t = some i := by
  cases hp : Go.Lf.place T t with
  | none => exact absurd rfl (place_none hp t (List.mem_of_getElem? hi))
  | some j => rw [h.once j i t (place_some hp) hi]

theorem TOk.put {T : List Tm} (h : TOk T) (t : Tm) : TOk (put T t).1 := by
  unfold Go.Lf.put
  split
  · exact h
  · rename_i he
    cases hp : Go.Lf.place T t with
    | some i => exact h
    | none =>
      by_cases hf : 1048576 ≤ T.length
      · rw [if_pos hf]; exact h
      rw [if_neg hf]
      have hn := place_none hp
      refine ⟨by simp; omega, fun i u hu => ?_, fun i j u hi hj => ?_⟩
      · rw [List.getElem?_append] at hu
        split at hu
        · rename_i hlt
          rw [List.take_append_of_le_length (by omega)]
          exact h.good i u hu
        · rename_i hge
          have hi : i = T.length := by
            have := (List.getElem?_eq_some_iff.1 hu).1
            simp at this; omega
          subst hi
          simp at hu
          subst hu
          rw [List.take_append_of_le_length (Nat.le_refl _), List.take_length]
          exact Decidable.not_not.1 he
      · rw [List.getElem?_append] at hi hj
        split at hi <;> split at hj
        · exact h.once i j u hi hj
        · have := (List.getElem?_eq_some_iff.1 hj).1
          rw [List.length_singleton] at this
          rw [show j - T.length = 0 by omega] at hj
          simp at hj
          subst hj
          exact absurd rfl (hn _ (List.mem_of_getElem? hi))
        · have := (List.getElem?_eq_some_iff.1 hi).1
          rw [List.length_singleton] at this
          rw [show i - T.length = 0 by omega] at hi
          simp at hi
          subst hi
          exact absurd rfl (hn _ (List.mem_of_getElem? hj))
        · have h1 := (List.getElem?_eq_some_iff.1 hi).1
          have h2 := (List.getElem?_eq_some_iff.1 hj).1
          simp at h1 h2; omega

/-! a map from texts to their places -/

def entsFrom : Nat → List ByteArray → List MapEntry
  | _, [] => []
  | i, k :: r => ⟨.string k, .int .i64 (i : Int), i⟩ :: entsFrom (i + 1) r

theorem entsFrom_app : ∀ (l m : List ByteArray) (i : Nat), entsFrom i (l ++ m) = entsFrom i l ++ entsFrom (i + l.length) m
  | [], m, i => rfl
  | k :: l, m, i => by
    simp only [List.cons_append, entsFrom, List.length_cons]
    rw [entsFrom_app l m (i + 1), show i + 1 + l.length = i + (l.length + 1) by omega]

theorem bytes_refl (a : ByteArray) : (a == a) = true := by rw [beq_toListBytes]; simp
theorem bytes_ne {a b : ByteArray} (h : a ≠ b) : (a == b) = false := by
  rw [beq_toListBytes]
  simp only [beq_eq_false_iff_ne, ne_eq]
  intro e
  rw [ByteArray.toList_eq, ByteArray.toList_eq] at e
  exact h (Go.WideShapes.bytes_inj e)

theorem findNow_ents (s : ByteArray) : ∀ (ks : List ByteArray) (i j : Nat), Instr.findNow .string (.string s) (entsFrom i ks) j =
    some ((ks.findIdx? fun k => decide (k = s)).map fun n => (j + n, Value.int .i64 ((i + n : Nat) : Int)))
  | [], i, j => rfl
  | k :: ks, i, j => by
    have e1 : Instr.sameNow .string (.string s) (.string k) = some (s == k) := rfl
    unfold entsFrom Instr.findNow
    simp only [e1]
    rw [List.findIdx?_cons]
    by_cases hk : k = s
    · subst hk
      rw [bytes_refl]; simp
    · rw [bytes_ne fun e => hk e.symm, if_neg (by simpa using hk)]
      simp only
      rw [findNow_ents s ks (i + 1) (j + 1)]
      congr 1
      cases ks.findIdx? fun k => decide (k = s) with
      | none => rfl
      | some n =>
        simp only [Option.map_some, Option.some.injEq, Prod.mk.injEq, Value.int.injEq, true_and]
        omega

def mapA (b : Nat) (ks : List ByteArray) : Asn where
  on F w := F b ∧ w.heap[b]? = some (.map (entsFrom 0 ks).toArray ks.length)
  loc := fun ⟨h1, h2⟩ h => ⟨h1, by rw [h b h1]; exact h2⟩
  grow := fun ⟨h1, h2⟩ h => ⟨h b h1, h2⟩

theorem Sep.mapNew {B : Nat} {w : World} {R : List Asn} (h : Sep B w R) : Sep B (w.alloc (.map #[] 0)) (mapA w.heap.size [] :: R) ∧ Below B w (w.alloc (.map #[] 0)) := by
  have hb := below_alloc w (.map #[] 0)
  exact ⟨h.new (F := fun i => i = w.heap.size) ⟨rfl, (MapKept.heap_alloc w _).1⟩ (fun i hi => by subst hi; rw [size_alloc]; omega) hb, hb.mono h.le⟩

section
variable {P : Program} {T k e : TypeId} (ht : P.underlying T = some (.map k e)) (hk : P.underlying k = some .string)
include ht hk
theorem look_map {w : World} {b : Nat} {ks : List ByteArray} (hz : (zeroValue e).run P w = .ok (.int .i64 0) w) (h : w.heap[b]? = some (.map (entsFrom 0 ks).toArray ks.length)) (s : ByteArray) :
    (do pure (.value (← Instr.lookup T (.map (some b)) (.string s) true)) : Sem Next).run P w = .ok (.value (.tuple #[.int .i64 (match ks.findIdx? fun k => decide (k = s) with | some n => (n : Int) | none => 0), .bool (ks.findIdx? fun k => decide (k = s)).isSome])) w := by
  have hf : (Instr.findKey k (.string s) (entsFrom 0 ks)).run P w = .ok ((ks.findIdx? fun k => decide (k = s)).map fun n => (0 + n, Value.int .i64 ((0 + n : Nat) : Int))) w := by
    unfold Instr.findKey
    simp [run_underlying hk, findNow_ents, Result.andThen]
  have hc : ∀ em, (Instr.checkKey em 10000 k (.string s)).run P w = .ok () w := fun em => by
    unfold Instr.checkKey
    simp [run_underlying hk, Result.andThen]
  cases hj : ks.findIdx? fun k => decide (k = s) with
  | none =>
    rw [hj] at hf
    simp only [Option.map_none] at hf
    simp [Instr.lookup, run_underlying ht, MapKept.run_getObj_map h, hc, hf, hz, Result.andThen]
  | some n =>
    rw [hj] at hf
    simp only [Option.map_some] at hf
    simp [Instr.lookup, run_underlying ht, MapKept.run_getObj_map h, hc, hf, Result.andThen]

theorem store_map {w : World} {b : Nat} {ks : List ByteArray} (h : w.heap[b]? = some (.map (entsFrom 0 ks).toArray ks.length)) {s : ByteArray} (hs : ks.findIdx? (fun k => decide (k = s)) = none) :
    (do Instr.mapUpdate T (.map (some b)) (.string s) (.int .i64 ((ks.length : Nat) : Int)); pure .skip : Sem Next).run P w = .ok .skip (ChangeMaps.setBlock w b (.map (entsFrom 0 (ks ++ [s])).toArray (ks ++ [s]).length)) := by
  have hf : (Instr.findKey k (.string s) (entsFrom 0 ks)).run P w = .ok none w := by
    unfold Instr.findKey
    simp [run_underlying hk, findNow_ents, hs, Result.andThen]
  have hc : (Instr.checkKey false 10000 k (.string s)).run P w = .ok () w := by
    unfold Instr.checkKey
    simp [run_underlying hk, Result.andThen]
  have he : (entsFrom 0 (ks ++ [s])).toArray = (entsFrom 0 ks).toArray.push ⟨.string s, .int .i64 ((ks.length : Nat) : Int), ks.length⟩ := by
    rw [entsFrom_app]; simp [entsFrom]
  rw [he]
  simp [Instr.mapUpdate, run_underlying ht, MapKept.run_getObj_map h, hc, hf, MapKept.run_setObj_map _ h, Result.andThen, ChangeMaps.setBlock]
end

theorem Sep.mapStore {B : Nat} {w : World} {l : List Asn} (k : Nat) {b : Nat} {ks : List ByteArray} (hk : l[k]? = some (mapA b ks)) (h : Sep B w l) (ks' : List ByteArray) :
    Sep B (ChangeMaps.setBlock w b (.map (entsFrom 0 ks').toArray ks'.length)) (l.set k (mapA b ks')) ∧ Below B w (ChangeMaps.setBlock w b (.map (entsFrom 0 ks').toArray ks'.length)) := by
  obtain ⟨F, ⟨h1, h2⟩, hF, back⟩ := h.at k hk
  have hg : w.grownBy (ChangeMaps.setBlock w b (.map (entsFrom 0 ks').toArray ks'.length)) (some b) :=
    ⟨rfl, rfl, rfl, by simp [ChangeMaps.setBlock], fun i _ hi => ChangeMaps.heap_setBlock_other h2 _ (fun e => hi (by rw [e]))⟩
  have hc : Chg F w (ChangeMaps.setBlock w b (.map (entsFrom 0 ks').toArray ks'.length)) := Chg.of_grown hg fun i hi => by cases hi; exact h1
  exact ⟨back ⟨h1, ChangeMaps.heap_setBlock_same h2 _⟩ hc fun i hi => ⟨.inl hi, Nat.lt_of_lt_of_le (hF i hi).2 hc.size⟩, hc.below (fun i hi => (hF i hi).1) h.le⟩

theorem Sep.mapAt {B : Nat} {w : World} {l : List Asn} (k : Nat) {b : Nat} {ks : List ByteArray} (hk : l[k]? = some (mapA b ks)) (h : Sep B w l) : w.heap[b]? = some (.map (entsFrom 0 ks).toArray ks.length) := by
  obtain ⟨F, ⟨h1, h2⟩, _⟩ := h.get k hk
  exact h2

end Go.Lf

/-
  Numbers behind numbers; arenas.
-/
namespace Go.Lf
open Go Go.RowKit Go.ChangeShapes
set_option linter.unusedVariables false

/-- all of a slice behind numbers of the call's own -/
theorem append_more {P : Program} {t ty e : TypeId} {i : TypeInfo} {z : Value} {bytes : Nat} {k : IntKind} (ht : P.underlying t = some (.slice e)) (hi : P.info? e = some i) (hz : i.zero = some z) (hsize : i.size = 1) (hby : i.bytes = bytes) (hzs : z.cells.size = 1)
    {B : Nat} {w : World} {d s : Sl} {ys xs : List Int} (hd : OwnI B e k w d ys) (hB : B ≤ w.heap.size) (h : Ints k w s xs) (hm : ys.length + xs.length ≤ maxLen) (hb : (ys.length + xs.length) * bytes ≤ 140737488355328) :
    ∃ s' : Sl, ∃ w', (builtin .append #[t, t] ty #[] #[.slice d.a d.len d.cap, .slice s.a s.len s.cap]).run P w = .ok (.value (.slice s'.a s'.len s'.cap)) w' ∧ OwnI B e k w' s' (ys ++ xs) ∧ Below B w w' := by
  have hlen := h.len
  cases ha : s.a with
  | none =>
    have hx : xs = [] := by
      cases xs with
      | nil => rfl
      | cons x xs => obtain ⟨q, hq, _⟩ := h.cell 0 x rfl; rw [ha] at hq; cases hq
    subst hx
    have h0 : s.len = 0 := by simpa using hlen
    refine ⟨d, w, ?_, by rw [List.append_nil]; exact hd, Below.refl _ _⟩
    have hdc : d.len ≤ d.cap := by
      rcases hd.2 with ⟨h1, _⟩ | ⟨g, cap, cur, h1, _, _, hc, _⟩
      · simp only [Value.slice.injEq] at h1; omega
      · simp only [Value.slice.injEq] at h1; omega
    cases hda : d.a with
    | none => 
      rcases hd.2 with ⟨h1, _⟩ | ⟨g, cap, cur, h1, _⟩
      · simp only [Value.slice.injEq] at h1
        simp [builtin, Builtin.append_, run_underlying ht, run_sizeOf' hi, hsize, Builtin.lenOf, Builtin.firstCells, h0, h1.2.1, h1.2.2]
      · simp only [Value.slice.injEq] at h1; rw [hda] at h1; cases h1.1
    | some a =>
      simp [builtin, Builtin.append_, run_underlying ht, run_sizeOf' hi, hsize, Builtin.lenOf, Builtin.firstCells, h0, hdc, storeCells]
  | some a =>
    obtain ⟨v', w', hr, hown, hg, hn⟩ := run_append_own (P := P) w B t ty e i z 1 bytes ht hi hz hsize hby hzs (by omega) _ ys.length (ys.map (Value.int k)) hd a s.len s.cap (xs.map (Value.int k)) (by simp [hlen]) (ints_news h ha)
      one_ints (by rw [hlen]; exact hm) (by rw [hlen]; exact hb) hB
    have hv : ∃ s' : Sl, v' = .slice s'.a s'.len s'.cap := by
      rcases hown.2 with ⟨rfl, h0⟩ | ⟨g, cap, cur, rfl, _⟩
      · exact ⟨⟨none, 0, 0⟩, rfl⟩
      · exact ⟨⟨some ⟨g, 0, none⟩, _, cap⟩, rfl⟩
    obtain ⟨s', rfl⟩ := hv
    refine ⟨s', w', by simp [builtin, hr], ?_, (Below.refl B w).grown hg hB fun k hk => (hd.lt k hk).1⟩
    unfold OwnI
    rw [hlen, ← List.map_append] at hown
    rw [List.length_append]
    exact hown

theorem made_ints {w : World} {e : TypeId} {k : IntKind} {xs : List Int} (hx : xs.length ≤ maxLen) : OwnI w.heap.size e k (w.alloc (.cells (xs.map (Value.int k)).toArray e)) ⟨some (newA w), xs.length, xs.length⟩ xs :=
  row_made (by simp) hx

/-- what is behind the first ones -/
theorem Ints.drop {k : IntKind} {w : World} {s : Sl} {xs : List Int} (h : Ints k w s xs) {m : Nat} (hm : m ≤ xs.length) (hc : s.len ≤ s.cap) :
    Ints k w ⟨if s.cap = m then s.a else s.a.map (·.add m), s.len - m, s.cap - m⟩ (xs.drop m) := by
  have hl := h.len
  refine ⟨by simp [hl], by have := h.small; show s.len - m ≤ _; omega, fun i x hx => ?_⟩
  rw [List.getElem?_drop] at hx
  obtain ⟨p, hp, hlt, hcc⟩ := h.cell (m + i) x hx
  have := (List.getElem?_eq_some_iff.1 hx).1
  refine ⟨p.add m, ?_, by rw [add_block]; exact hlt, by rw [add_add]; exact hcc⟩
  show (if s.cap = m then s.a else s.a.map (·.add m)) = _
  rw [if_neg (by omega), hp]; rfl

/-! arenas -/

abbrev Nds := List (Tm × Sl)
def nodeC (x : Tm × Sl) : List Value := [.int .i64 x.1.kind, .int .i64 x.1.n, .slice x.2.a x.2.len x.2.cap]
theorem nodeC.w (x : Tm × Sl) : (nodeC x).length = 3 := rfl
def terms (N : Nds) : List Tm := N.map (·.1)
def argsL (N : Nds) : List (Sl × List Int) := N.map fun x => (x.2, x.1.args)
theorem terms_len (N : Nds) : (terms N).length = N.length := by simp [terms]
theorem terms_app (N M : Nds) : terms (N ++ M) = terms N ++ terms M := by simp [terms]
theorem terms_at {N : Nds} {i : Nat} {x : Tm × Sl} (h : N[i]? = some x) : (terms N)[i]? = some x.1 := by simp [terms, h]
theorem terms_of {N : Nds} {i : Nat} {t : Tm} (h : (terms N)[i]? = some t) : ∃ s, N[i]? = some (t, s) := by
  unfold terms at h
  rw [List.getElem?_map, Option.map_eq_some_iff] at h
  obtain ⟨x, hx, rfl⟩ := h
  exact ⟨x.2, hx⟩

def arL (ty : TypeId) (p : Addr) (N : Nds) (s : Sl) (m : Nat) : List Asn :=
  [boxA p [.slice s.a s.len s.cap, .map (some m)], rowA ty 3 s N.length (flat nodeC N), mapA m ((terms N).map Tm.key), intsAll .i64 (argsL N)]
def pgL (ty : TypeId) (p : Addr) (N : Nds) (s : Sl) : List Asn :=
  [boxA p [.slice s.a s.len s.cap], rowA ty 3 s N.length (flat nodeC N), intsAll .i64 (argsL N)]
def capsOk (N : Nds) : Prop := ∀ x ∈ N, x.2.len ≤ x.2.cap
def arenaA (ty : TypeId) (p : Addr) (N : Nds) : Asn := exA (fun _ : Sl × Nat => TOk (terms N) ∧ capsOk N) fun x => arL ty p N x.1 x.2
def pageA (ty : TypeId) (p : Addr) (N : Nds) : Asn := exA (fun _ : Sl => TOk (terms N) ∧ capsOk N) fun s => pgL ty p N s

theorem OwnI.cap {B : Nat} {e : TypeId} {k : IntKind} {w : World} {s : Sl} {xs : List Int} (h : OwnI B e k w s xs) : s.len ≤ s.cap := by
  rcases h.2 with ⟨h1, _⟩ | ⟨g, cap, cur, h1, _, _, hc, _⟩
  · simp only [Value.slice.injEq] at h1; omega
  · simp only [Value.slice.injEq] at h1; omega

theorem keys_find (T : List Tm) (t : Tm) : ((T.map Tm.key).findIdx? fun k => decide (k = t.key)) = place T t := by
  rw [List.findIdx?_map]
  unfold place
  congr 1
  funext u
  simp only [Function.comp_apply, decide_eq_decide]
  exact ⟨Tm.key_inj, fun h => by rw [h]⟩

end Go.Lf

/-
  What is beneath a term: the law of the marks.
-/
namespace Go.Lf
open Go Go.RowKit Go.ChangeShapes
set_option linter.unusedVariables false

def tmAt (T : List Tm) (i : Int) : Tm := (T[i.toNat]?).getD ⟨0, 0, []⟩

/-- the args of each stand ahead of it -/
def Down (T : List Tm) : Prop := ∀ (n : Nat), n < T.length → ∀ x ∈ (tmAt T (n : Int)).args, 0 ≤ x ∧ x < n

inductive U (T : List Tm) : Nat → Nat → Prop
  | refl (i : Nat) : U T i i
  | step {i k : Nat} {x : Int} (hx : x ∈ (tmAt T (i : Int)).args) (h : U T x.toNat k) : U T i k

theorem U.le {T : List Tm} (hd : Down T) {i k : Nat} (h : U T i k) : i < T.length → k ≤ i := by
  induction h with
  | refl i => intro _; exact Nat.le_refl _
  | step hx h ih =>
    intro hi
    have := hd _ hi _ hx
    have := ih (by omega)
    omega

end Go.Lf

/-
  What is known: the law of it, and that working off what waits tells just that.
-/
namespace Go.Lf
open Go Go.RowKit Go.ChangeShapes
set_option linter.unusedVariables false

def kd (T : List Tm) (i : Nat) : Int := (tmAt T (i : Int)).kind
def ar (T : List Tm) (i : Nat) : List Nat := (tmAt T (i : Int)).args.map Int.toNat
def a0 (T : List Tm) (i : Nat) : Nat := (ar T i)[0]?.getD 0
def a1 (T : List Tm) (i : Nat) : Nat := (ar T i)[1]?.getD 0

inductive Kn (T : List Tm) (S : Nat → Prop) : Nat → Prop
  | start {i : Nat} (h : S i) : Kn T S i
  | made {i : Nat} (hi : i < T.length) (hk : kd T i ≠ 1) (h : ∀ x, x ∈ ar T i → Kn T S x) : Kn T S i
  | list {i x : Nat} (h : Kn T S i) (hk : kd T i = 9) (hx : x ∈ ar T i) : Kn T S x
  | sig {i x : Nat} (h : Kn T S i) (hk : kd T i = 8) (hx : x ∈ (ar T i).drop 1) : Kn T S x
  | lock {i x : Nat} (h : Kn T S i) (hk : kd T i = 6) (h0 : Kn T S (a0 T i)) (hx : x ∈ (ar T i).drop 1) : Kn T S x
  | box1 {i x : Nat} (h : Kn T S i) (hk : kd T i = 7) (h1 : Kn T S (a1 T i)) (hx : x ∈ (ar T i).drop 2) : Kn T S x
  | box2 {i x : Nat} (h : Kn T S i) (hk : kd T i = 7) (hp : kd T (a0 T i) = 5) (h0 : Kn T S (a0 T (a0 T i))) (hx : x ∈ (ar T i).drop 2) : Kn T S x

/-- what is worked with -/
structure KS where
  is : List Bool
  wait : List Nat
  left : List Int

def KS.has (s : KS) (i : Nat) : Prop := s.is[i]?.getD false = true
instance (s : KS) (i : Nat) : Decidable (s.has i) := by unfold KS.has; infer_instance

def opensK (T : List Tm) (s : KS) (i : Nat) : Prop := if kd T i = 6 then s.has (a0 T i) else s.has (a1 T i) ∨ kd T (a0 T i) = 5 ∧ s.has (a0 T (a0 T i))
instance (T : List Tm) (s : KS) (i : Nat) : Decidable (opensK T s i) := by unfold opensK; infer_instance
/-- what is true of the state: w known, P worked off -/
structure KI (T : List Tm) (S : Nat → Prop) (s : KS) (P : List Nat) : Prop where
  lenI : s.is.length = T.length
  lenL : s.left.length = T.length
  sound : ∀ i, s.has i → Kn T S i
  both : ∀ i, s.has i ↔ i ∈ s.wait ∨ i ∈ P
  nodup : s.wait.Nodup
  apart : ∀ i ∈ s.wait, i ∉ P

/-- args that are not worked off -/
def lack (T : List Tm) (P : List Nat) (x : Nat) : Nat := ((ar T x).filter fun y => decide (y ∉ P)).length

/-- what the law asks of the terms -/
structure KT (T : List Tm) : Prop where
  down : ∀ i, i < T.length → ∀ x ∈ ar T i, x < i
  atom : ∀ i, i < T.length → kd T i = 1 → ar T i = []
  pub : ∀ i j, i < T.length → j < T.length → kd T i = 5 → kd T j = 5 → a0 T i = a0 T j → i = j
  one : ∀ i, i < T.length → kd T i = 5 ∨ kd T i = 6 ∨ kd T i = 8 → 1 ≤ (ar T i).length
  two : ∀ i, i < T.length → kd T i = 7 → 2 ≤ (ar T i).length

/-! the tables -/

/-- what follows of what is worked off is known -/
structure KC (T : List Tm) (S : Nat → Prop) (s : KS) (P : List Nat) : Prop where
  start : ∀ i, S i → s.has i
  none : ∀ x, x < T.length → kd T x ≠ 1 → ar T x = [] → s.has x
  left : ∀ x, x < T.length → s.left[x]?.getD 0 = (lack T P x : Int)
  made : ∀ x, x < T.length → ar T x ≠ [] → lack T P x = 0 → s.has x
  list : ∀ i ∈ P, kd T i = 9 → ∀ x ∈ ar T i, s.has x
  sig : ∀ i ∈ P, kd T i = 8 → ∀ x ∈ (ar T i).drop 1, s.has x
  lock : ∀ i ∈ P, kd T i = 6 → a0 T i ∈ P → ∀ x ∈ (ar T i).drop 1, s.has x
  box1 : ∀ i ∈ P, kd T i = 7 → a1 T i ∈ P → ∀ x ∈ (ar T i).drop 2, s.has x
  box2 : ∀ i ∈ P, kd T i = 7 → kd T (a0 T i) = 5 → a0 T (a0 T i) ∈ P → ∀ x ∈ (ar T i).drop 2, s.has x

theorem errZ {T : List Tm} {t : Tm} (h : errOf T t = 0) : 1 ≤ t.kind ∧ t.kind ≤ 9 ∧ least t.kind ≤ t.args.length ∧ t.args.length ≤ mostOf t.kind ∧ (∀ x ∈ t.args, inT T x) ∧ 0 ≤ t.n ∧ (0 < t.n → numbered t.kind) := by
  unfold errOf at h
  split at h
  · exact absurd h (by decide)
  split at h
  · exact absurd h (by decide)
  split at h
  · exact absurd h (by decide)
  split at h
  · exact absurd h (by decide)
  rename_i h1 h2 h3 h4
  refine ⟨by omega, by omega, by omega, by omega, Decidable.not_not.1 h4, by omega, fun hp => ?_⟩
  exact Decidable.not_not.1 fun hn => h2 (.inr ⟨hp, hn⟩)

theorem okAt {T : List Tm} (h : TOk T) {i : Nat} (hi : i < T.length) : T[i]? = some (tmAt T (i : Int)) ∧ 1 ≤ kd T i ∧ kd T i ≤ 9 ∧ least (kd T i) ≤ (tmAt T (i : Int)).args.length ∧ (tmAt T (i : Int)).args.length ≤ mostOf (kd T i) ∧ (∀ x ∈ (tmAt T (i : Int)).args, 0 ≤ x ∧ x < i) ∧ 0 ≤ (tmAt T (i : Int)).n ∧ (0 < (tmAt T (i : Int)).n → numbered (kd T i)) := by
  have he : T[i]? = some (tmAt T (i : Int)) := by unfold tmAt; rw [Int.toNat_natCast, List.getElem?_eq_getElem hi]; rfl
  obtain ⟨h1, h2, h3, h4, h5, h6, h7⟩ := errZ (h.good _ _ he)
  refine ⟨he, h1, h2, h3, h4, fun x hx => ?_, h6, h7⟩
  have := h5 x hx
  unfold inT at this
  rw [List.length_take] at this
  omega

end Go.Lf

/-
  What is known: what is kept away; where all atoms are known, or nothing is.
-/
namespace Go.Lf
open Go Go.RowKit Go.ChangeShapes
set_option linter.unusedVariables false

theorem Kn.more {T : List Tm} {S S' : Nat → Prop} (h : ∀ i, S i → S' i) {i : Nat} (hk : Kn T S i) : Kn T S' i := by
  induction hk with
  | start hs => exact .start (h _ hs)
  | made hi hk _ ih => exact .made hi hk ih
  | list _ hk hx ih => exact .list ih hk hx
  | sig _ hk hx ih => exact .sig ih hk hx
  | lock _ hk _ hx ih ih0 => exact .lock ih hk ih0 hx
  | box1 _ hk _ hx ih ih1 => exact .box1 ih hk ih1 hx
  | box2 _ hk hp _ hx ih ih0 => exact .box2 ih hk hp ih0 hx

theorem Kn.lt {T : List Tm} (hT : KT T) {S : Nat → Prop} (hS : ∀ i, S i → i < T.length) {i : Nat} (hk : Kn T S i) : i < T.length := by
  have dr : ∀ {i x m : Nat}, i < T.length → x ∈ (ar T i).drop m → x < T.length := fun hi hx => by
    have := hT.down _ hi _ (List.mem_of_mem_drop hx); omega
  induction hk with
  | start hs => exact hS _ hs
  | made hi _ _ _ => exact hi
  | list _ hk hx ih => have := hT.down _ ih _ hx; omega
  | sig _ hk hx ih => exact dr ih hx
  | lock _ hk _ hx ih ih0 => exact dr ih hx
  | box1 _ hk _ hx ih ih1 => exact dr ih hx
  | box2 _ hk hp _ hx ih ih0 => exact dr ih hx

/-! of all atoms everything; of nothing what is made of words alone -/

inductive Md (T : List Tm) : Nat → Prop
  | mk {i : Nat} (hi : i < T.length) (hk : kd T i ≠ 1) (h : ∀ x, x ∈ ar T i → Md T x) : Md T i

/-! a secret -/

structure SecT (n : Int) (ins : List Nat) (T : List Tm) : Prop where
  head : T[0]? = some ⟨1, n, []⟩
  kinds : ∀ i t, T[i]? = some t → i ≠ 0 → t.kind = 2 ∨ (t.kind = 3 ∨ t.kind = 4 ∧ t.n < 30 ∨ t.kind = 5 ∨ ((t.kind = 6 ∨ t.kind = 8) ∧ t.args = (0 :: ins).map fun k => ((k : Nat) : Int)))
  insk : ∀ x ∈ ins, ∃ t, T[x]? = some t ∧ t.kind = 2

end Go.Lf

/-
  Terms that are new to an arena; seals, boxes, signatures, lists, one in the other.
-/
namespace Go.Lf
open Go Go.RowKit Go.ChangeShapes
set_option linter.unusedVariables false

theorem errOk {T : List Tm} {t : Tm} (h1 : 1 ≤ t.kind ∧ t.kind ≤ 9) (h2 : 0 ≤ t.n) (h3 : numbered t.kind ∨ t.n = 0) (h4 : least t.kind ≤ t.args.length) (h5 : t.args.length ≤ mostOf t.kind) (h6 : ∀ x ∈ t.args, inT T x) : errOf T t = 0 := by
  unfold errOf
  rw [if_neg (by omega), if_neg, if_neg (by omega), if_neg (fun h => h h6)]
  rintro (h | ⟨h, hn⟩)
  · omega
  · rcases h3 with h3 | h3
    · exact hn h3
    · omega

theorem put_there {T : List Tm} (hT : TOk T) {t : Tm} {i : Nat} (hi : T[i]? = some t) (he : errOf T t = 0) : put T t = (T, (i : Int), 0) := by
  unfold put
  rw [if_neg (fun e => e he), hT.place hi]

theorem put_grow (T : List Tm) (t : Tm) : ∃ r, (put T t).1 = T ++ r ∧ r.length ≤ 1 := by
  unfold put
  split
  · exact ⟨[], by simp, by simp⟩
  · split
    · exact ⟨[], by simp, by simp⟩
    · split
      · exact ⟨[], by simp, by simp⟩
      · exact ⟨[t], rfl, by simp⟩

/-- where a term is that was put -/
theorem putAt {T : List Tm} {t : Tm} (he : errOf T t = 0) (hl : T.length < 1048576) : ∃ k : Nat, (put T t).2.1 = (k : Int) ∧ (put T t).2.2 = 0 ∧ (put T t).1[k]? = some t := by
  unfold put
  rw [if_neg (fun e => e he)]
  cases hp : place T t with
  | some i => exact ⟨i, rfl, rfl, place_some hp⟩
  | none =>
    simp only
    rw [if_neg (by omega)]
    exact ⟨T.length, rfl, rfl, by simp⟩

/-! one in the other -/

def needs (κ : Nat → Nat) (j : Nat) : Prop := κ j = 0 ∨ κ j = 1
instance (κ : Nat → Nat) (j : Nat) : Decidable (needs κ j) := by unfold needs; infer_instance

end Go.Lf

/-
  Slices that are made in any order: what suffices for the region.
-/
namespace Go.Lf
open Go Go.RowKit Go.ChangeShapes
set_option linter.unusedVariables false
variable {P : Program} {n : Nat} {ops : Array Oper} {Q : Exit → Act → World → Prop} {S : World → Prop}

/-- what a make leaves -/
structure MkS where
  by' : Nat
  size : Nat
  z : Value
  e : TypeId

def MkS.run (m : MkS) (x : Int) (w : World) : World := w.alloc (.cells ((Array.range (x.toNat * m.size)).map (m.z.cells[· % m.z.cells.size]!)) m.e)
def MkS.may (m : MkS) (x : Int) : Prop := 0 ≤ x ∧ x ≤ x ∧ (m.by' : Int) * x ≤ 281474976710656 ∧ x ≤ 9223372036854775807

structure MkOp (P : Program) (n : Nat) (ops : Array Oper) (fr : Fr) (x : Int) (i d : Nat) (m : MkS) : Prop where
  has : ∃ o T l c i0, ops[i]? = some o ∧ o.op = .makeSlice T l c ∧ o.guard = none ∧ o.dst = some d ∧ P.underlying T = some (.slice m.e) ∧ P.info? m.e = some i0 ∧ i0.zero = some m.z ∧ i0.bytes = m.by' ∧ i0.size = m.size ∧
    (∃ q, evo fr l = some (.int q x)) ∧ (∃ q, evo fr c = some (.int q x))
  lt : d < n
  new : fget fr d = none

theorem fget_app {fr fr' : Fr} {t : Nat} {v : Value} (h : fget fr t = some v) (hn : fget fr' t = none) : fget (fr' ++ fr) t = some v := by
  induction fr' with
  | nil => exact h
  | cons p r ih =>
    obtain ⟨s, u⟩ := p
    unfold fget at hn
    show cond (Nat.beq s t) (some u) (fget (r ++ fr) t) = some v
    cases hb : Nat.beq s t with
    | true => rw [hb] at hn; cases hn
    | false => rw [hb] at hn; exact ih hn

theorem evo_app {fr fr' : Fr} {y : Operand} {v : Value} (h : evo fr y = some v) (hn : ∀ t, y = .tmp t → fget fr' t = none) : evo (fr' ++ fr) y = some v := by
  cases y with
  | tmp t => exact fget_app h (hn t rfl)
  | const v => exact h
  | global g => exact h
  | func f => exact h

/-- one of them, wherever it comes -/
theorem MkOp.step {fr fr' : Fr} {x : Int} {i d : Nat} {m : MkS} (h : MkOp P n ops fr x i d m) (hfr : ∀ t, fget fr' t ≠ none → fget fr t = none) (hm : m.may x) {a : Act} {w : World} (hs : St n (fr' ++ fr) a) {K : Act → World → Prop}
    (hK : ∀ a', St n ((d, .slice (some (newA w)) x.toNat x.toNat) :: fr' ++ fr) a' → K a' (m.run x w)) : wpOp P ops Q i K a w := by
  obtain ⟨o, T, l, c, i0, ho, hop, hg, hd, hT, hi, hz, hb, hsz, ⟨q1, hl⟩, ⟨q2, hc⟩⟩ := h.has
  unfold wpOp
  rw [ho]
  simp only
  have hw : Region.wanted o (yielded ops a.tmps) = true := by unfold Region.wanted; rw [hg]
  rw [hw, if_pos rfl]
  left
  have ev' : ∀ {y : Operand} {q : IntKind}, evo fr y = some (.int q x) → evo (fr' ++ fr) y = some (.int q x) := by
    intro y q hy
    refine evo_app hy fun t ht => ?_
    subst ht
    cases hh : fget fr' t with
    | none => rfl
    | some v =>
      have := hfr t (by rw [hh]; simp)
      have hy' : fget fr t = some (.int q x) := hy
      rw [this] at hy'; cases hy'
  refine LLoud.wp (n := n) (fr := fr' ++ fr) (K := fun v w' => v = .slice (some (newA w)) x.toNat x.toNat ∧ w' = m.run x w) hs ?_ ?_
  · unfold LLoud
    rw [hop]
    simp only [ev' hl, ev' hc, hT, hi, hz]
    rw [hb, hsz]
    exact ⟨hm.1, hm.2.1, hm.2.2.1, hm.2.2.2, rfl, rfl⟩
  · rintro v w' ⟨rfl, rfl⟩
    rw [hd]
    exact hK _ (hs.put h.lt _)

def frOf (dst : Nat → Nat) (x : Int) (A : Nat → Addr) (l : List Nat) : Fr := l.map fun i => (dst i, .slice (some (A i)) x.toNat x.toNat)

/-- operations that only reckon, taken first -/
def LPre (P : Program) (n : Nat) (ops : Array Oper) (K : Array Bool → Fr → Prop) : List Nat → Array Bool → Fr → Prop
  | [], L, fr => K L fr
  | i :: r, L, fr =>
    match ops[i]? with
    | some o => cond (quietB P o.op && Region.free .any ops L i && (Region.ready .any ops L).contains i && o.guard.isNone) (LQuiet P o fr (fun _ _ => False) fun v => putK n o.dst v fr fun fr => LPre P n ops K r (L.setIfInBounds i true) fr) False
    | none => False

theorem LPre.wp {K : Array Bool → Fr → Prop} (hsel : Region.noSelect ops = true) {f : Nat} {w : World} : ∀ (l : List Nat) (L : Array Bool) (fr : Fr) (a : Act), Closed ops L → LPre P n ops K l L fr → St n fr a →
    (∀ L' fr' a', K L' fr' → St n fr' a' → Closed ops L' → wpAnyG P ops (NoPanic Q) (fun _ => True) f L' a' w) → wpAnyG P ops (NoPanic Q) (fun _ => True) (l.length + f) L a w
  | [], L, fr, a, hc, h, hs, hk => by
    rw [List.length_nil, Nat.zero_add]; exact hk L fr a h hs hc
  | i :: r, L, fr, a, hc, h, hs, hk => by
    unfold LPre at h
    split at h
    · rename_i o ho
      obtain ⟨hb, h⟩ := cond_f h
      simp only [Bool.and_eq_true] at hb
      obtain ⟨⟨⟨hq, hfree⟩, hrd⟩, hg⟩ := hb
      have hrd : i ∈ Region.ready .any ops L := by simpa using hrd
      have hw : Region.wanted o (yielded ops a.tmps) = true := by
        unfold Region.wanted
        cases hgu : o.guard with
        | none => rfl
        | some g => rw [hgu] at hg; cases hg
      obtain ⟨v, hv, hrun⟩ := LQuiet.out hs h
      obtain ⟨fr2, hs2, h2⟩ := putK.out hs hv
      rw [show (i :: r).length + f = (r.length + f) + 1 by simp; omega]
      exact wpAnyG_first (S' := fun _ => True) ho hq (Region.noSelect_spec hsel) (fun c a w h => h) (fun _ _ _ _ _ => trivial) _ L a w hc (Region.free_spec ho hfree) hrd (.inl ⟨hw, fun x _ => hrun x fun q u hqu => hqu.elim⟩) (fun _ => trivial)
        (LPre.wp hsel r _ fr2 _ (hc.ready hrd) h2 hs2 hk)
    · exact h.elim

theorem fget_frOf_at {dst : Nat → Nat} {x : Int} {A : Nat → Addr} {fr : Fr} {i : Nat} : ∀ {l : List Nat}, i ∈ l → (∀ j ∈ l, dst j = dst i → j = i) → fget (frOf dst x A l ++ fr) (dst i) = some (.slice (some (A i)) x.toNat x.toNat)
  | [], h, _ => by cases h
  | j :: l, h, hinj => by
    show cond (Nat.beq (dst j) (dst i)) (some _) (fget (frOf dst x A l ++ fr) (dst i)) = _
    cases hb : Nat.beq (dst j) (dst i) with
    | true =>
      have := hinj j (by simp) (Nat.eq_of_beq_eq_true hb)
      subst this; rfl
    | false =>
      have hne : j ≠ i := fun e => by subst e; rw [Nat.beq_refl] at hb; cases hb
      rcases List.mem_cons.1 h with e | h
      · exact absurd e.symm hne
      · exact fget_frOf_at h fun y hy => hinj y (by simp [hy])

theorem fget_frOf_out {dst : Nat → Nat} {x : Int} {A : Nat → Addr} {fr : Fr} {t : Nat} : ∀ {l : List Nat}, (∀ j ∈ l, dst j ≠ t) → fget (frOf dst x A l ++ fr) t = fget fr t
  | [], _ => rfl
  | j :: l, h => by
    show cond (Nat.beq (dst j) t) (some _) (fget (frOf dst x A l ++ fr) t) = _
    cases hb : Nat.beq (dst j) t with
    | true => exact absurd (Nat.eq_of_beq_eq_true hb) (h j (by simp))
    | false => exact fget_frOf_out fun y hy => h y (by simp [hy])

theorem St.perm {dst : Nat → Nat} {x : Int} {A : Nat → Addr} {fr : Fr} {l m : List Nat} {a : Act} (h : St n (frOf dst x A l ++ fr) a) (hp : l.Perm m) (hinj : ∀ i ∈ m, ∀ j ∈ m, dst j = dst i → j = i) : St n (frOf dst x A m ++ fr) a := by
  refine ⟨h.size, h.defers, fun t v hv => h.fits t v ?_⟩
  by_cases ht : ∃ i ∈ m, dst i = t
  · obtain ⟨i, hi, rfl⟩ := ht
    rw [fget_frOf_at hi (hinj i hi)] at hv
    rw [fget_frOf_at (hp.mem_iff.2 hi) fun j hj => hinj i hi j (hp.mem_iff.1 hj)]
    exact hv
  · rw [fget_frOf_out fun j hj e => ht ⟨j, hj, e⟩] at hv
    rw [fget_frOf_out fun j hj e => ht ⟨j, hp.mem_iff.1 hj, e⟩]
    exact hv

/-! the same, by what the kernel reckons -/

def MkOk (P : Program) (n : Nat) (ops : Array Oper) (fr : Fr) (x : Int) (i d : Nat) (m : MkS) : Prop :=
  match ops[i]? with
  | some o =>
    match o.op with
    | .makeSlice T l c =>
      match P.underlying T with
      | some (.slice e) =>
        match P.info? e with
        | some i0 => e = m.e ∧ i0.zero = some m.z ∧ i0.bytes = m.by' ∧ i0.size = m.size ∧ o.guard = none ∧ o.dst = some d ∧ evo fr l = some (.int .i64 x) ∧ evo fr c = some (.int .i64 x) ∧ Nat.blt d n = true ∧ fget fr d = none
        | none => False
      | _ => False
    | _ => False
  | none => False

theorem MkOk.op {fr : Fr} {x : Int} {i d : Nat} {m : MkS} (h : MkOk P n ops fr x i d m) : MkOp P n ops fr x i d m := by
  unfold MkOk at h
  split at h
  · rename_i o ho
    split at h
    · rename_i T l c hop
      split at h
      · rename_i e hT
        split at h
        · rename_i i0 hi
          obtain ⟨h1, h2, h3, h4, h5, h6, h7, h8, h9, h10⟩ := h
          subst h1
          exact ⟨⟨o, T, l, c, i0, ho, hop, h5, h6, hT, hi, h2, h3, h4, ⟨_, h7⟩, ⟨_, h8⟩⟩, by simpa [Nat.blt_eq] using h9, h10⟩
        · exact h.elim
      · exact h.elim
    · exact h.elim
  · exact h.elim

theorem AllL.of {F : Nat → Prop} (h : ∀ i, F i) : ∀ l : List Nat, AllL F l
  | [] => trivial
  | [i] => h i
  | i :: j :: r => ⟨h i, AllL.of h (j :: r)⟩

end Go.Lf

/-
  Terms of two arenas that are the same.
-/
namespace Go.Lf
open Go Go.RowKit Go.ChangeShapes
set_option linter.unusedVariables false

inductive Eqv (A B : List Tm) : Nat → Nat → Prop
  | mk {i j : Nat} {t u : Tm} (hi : A[i]? = some t) (hj : B[j]? = some u) (hk : t.kind = u.kind) (hn : t.n = u.n) (hl : t.args.length = u.args.length)
      (h : ∀ (q : Nat) (x y : Int), t.args[q]? = some x → u.args[q]? = some y → Eqv A B x.toNat y.toNat) : Eqv A B i j

/-- what was there is -/
def Ext (A A' : List Tm) : Prop := ∀ (i : Nat) (t : Tm), A[i]? = some t → A'[i]? = some t
theorem Ext.refl (A : List Tm) : Ext A A := fun _ _ h => h
theorem Ext.trans {A B C : List Tm} (h : Ext A B) (k : Ext B C) : Ext A C := fun i t ht => k i t (h i t ht)
theorem Ext.put (A : List Tm) (t : Tm) : Ext A (put A t).1 := fun i u hu => by
  obtain ⟨r, e, _⟩ := put_grow A t
  rw [e, List.getElem?_append_left (List.getElem?_eq_some_iff.1 hu).1]; exact hu
theorem Ext.len {A A' : List Tm} (h : Ext A A') : A.length ≤ A'.length := by
  rcases Nat.lt_or_ge A'.length A.length with h1 | h1
  · have := h A'.length _ (List.getElem?_eq_getElem h1)
    have := (List.getElem?_eq_some_iff.1 this).1
    omega
  · exact h1
theorem Ext.inT {A A' : List Tm} (h : Ext A A') {x : Int} (hx : inT A x) : inT A' x := by
  have := h.len
  unfold Lf.inT at *; omega

theorem Eqv.mono {A B A' B' : List Tm} (hA : Ext A A') (hB : Ext B B') {i j : Nat} (h : Eqv A B i j) : Eqv A' B' i j := by
  induction h with
  | mk hi hj hk hn hl _ ih => exact .mk (hA _ _ hi) (hB _ _ hj) hk hn hl ih

theorem TOk.argsAt {A : List Tm} (h : TOk A) {i : Nat} {t : Tm} (hi : A[i]? = some t) : ∀ x ∈ t.args, 0 ≤ x ∧ x < i := by
  intro x hx
  have hlt := (List.getElem?_eq_some_iff.1 hi).1
  have h5 := (okAt h hlt).2.2.2.2.2.1
  have e : tmAt A (i : Int) = t := by unfold tmAt; rw [Int.toNat_natCast, hi]; rfl
  rw [e] at h5
  exact h5 x hx

theorem Eqv.of_ext {A B : List Tm} (hB : TOk B) (h : Ext B A) : ∀ j, j < B.length → Eqv A B j j := by
  intro j
  induction j using Nat.strongRecOn with
  | _ j ih =>
    intro hj
    have hu := List.getElem?_eq_getElem hj
    refine .mk (h _ _ hu) hu rfl rfl rfl fun q x y hx hy => ?_
    rw [hx] at hy
    obtain rfl := Option.some.inj hy
    have := hB.argsAt hu x (List.mem_of_getElem? hx)
    exact ih x.toNat (by omega) (by omega)

theorem args_eq {a b : List Int} (hl : a.length = b.length) (h : ∀ (q : Nat) (x y : Int), a[q]? = some x → b[q]? = some y → x = y) : a = b := by
  apply List.ext_getElem hl
  intro q h1 h2
  exact h q _ _ (List.getElem?_eq_getElem h1) (List.getElem?_eq_getElem h2)

theorem tm_eq {t u : Tm} (hk : t.kind = u.kind) (hn : t.n = u.n) (ha : t.args = u.args) : t = u := by
  cases t; cases u; simp only at hk hn ha; subst hk hn ha; rfl

theorem Eqv.left {A B : List Tm} (hA : TOk A) {i j : Nat} (h : Eqv A B i j) : ∀ {i' : Nat}, Eqv A B i' j → i = i' := by
  induction h with
  | mk hi hj hk hn hl _ ih =>
    rename_i i j t u h
    intro i' h'
    cases h' with
    | mk hi' hj' hk' hn' hl' h' =>
      rename_i t' u'
      rw [hj] at hj'
      obtain rfl := Option.some.inj hj'
      have hargs : t.args = t'.args := by
        refine args_eq (by omega) fun q x y hx hy => ?_
        have hq : q < u.args.length := by have := (List.getElem?_eq_some_iff.1 hx).1; omega
        have e := ih q x _ hx (List.getElem?_eq_getElem hq) (h' q y _ hy (List.getElem?_eq_getElem hq))
        have h1 := hA.argsAt hi x (List.mem_of_getElem? hx)
        have h2 := hA.argsAt hi' y (List.mem_of_getElem? hy)
        omega
      have : t = t' := tm_eq (by rw [hk, hk']) (by rw [hn, hn']) hargs
      subst this
      exact hA.once _ _ _ hi hi'

theorem Eqv.right {A B : List Tm} (hB : TOk B) {i j : Nat} (h : Eqv A B i j) : ∀ {j' : Nat}, Eqv A B i j' → j = j' := by
  induction h with
  | mk hi hj hk hn hl _ ih =>
    rename_i i j t u h
    intro j' h'
    cases h' with
    | mk hi' hj' hk' hn' hl' h' =>
      rename_i t' u'
      rw [hi] at hi'
      obtain rfl := Option.some.inj hi'
      have hargs : u.args = u'.args := by
        refine args_eq (by omega) fun q x y hx hy => ?_
        have hq : q < t.args.length := by have := (List.getElem?_eq_some_iff.1 hx).1; omega
        have e := ih q _ x (List.getElem?_eq_getElem hq) hx (h' q _ y (List.getElem?_eq_getElem hq) hy)
        have h1 := hB.argsAt hj x (List.mem_of_getElem? hx)
        have h2 := hB.argsAt hj' y (List.mem_of_getElem? hy)
        omega
      have : u = u' := tm_eq (by rw [← hk, ← hk']) (by rw [← hn, ← hn']) hargs
      subst this
      exact hB.once _ _ _ hj hj'

theorem Eqv.lt {A B : List Tm} {i j : Nat} (h : Eqv A B i j) : i < A.length ∧ j < B.length := by
  cases h with
  | mk hi hj _ _ _ _ => exact ⟨(List.getElem?_eq_some_iff.1 hi).1, (List.getElem?_eq_some_iff.1 hj).1⟩

/-- a term's place in one arena, and in another; -1: it is none -/
def Rel (A B : List Tm) (k x : Int) : Prop := (inT B x → 0 ≤ k ∧ Eqv A B k.toNat x.toNat) ∧ (¬ inT B x → k = -1)

theorem Rel.mono {A B A' : List Tm} (hA : Ext A A') {k x : Int} (h : Rel A B k x) : Rel A' B k x :=
  ⟨fun hx => ⟨(h.1 hx).1, (h.1 hx).2.mono hA (Ext.refl _)⟩, h.2⟩
theorem Rel.inT {A B : List Tm} {k x : Int} (h : Rel A B k x) : inT A k ↔ inT B x := by
  constructor
  · intro hk
    refine Classical.byContradiction fun hx => ?_
    have := h.2 hx
    unfold Lf.inT at hk; omega
  · intro hx
    obtain ⟨h1, h2⟩ := h.1 hx
    have := h2.lt.1
    unfold Lf.inT; omega
theorem Rel.eq {A B : List Tm} (hA : TOk A) {k k' x : Int} (h : Rel A B k x) (h' : Rel A B k' x) : k = k' := by
  by_cases hx : Lf.inT B x
  · obtain ⟨h1, h2⟩ := h.1 hx
    obtain ⟨h3, h4⟩ := h'.1 hx
    have := h2.left hA h4
    omega
  · rw [h.2 hx, h'.2 hx]
/-- where nothing is but what was there -/
theorem Rel.same {A B : List Tm} (hA : TOk A) (hB : TOk B) (h : Ext B A) {k x : Int} (hr : Rel A B k x) : k = if Lf.inT B x then x else -1 := by
  by_cases hx : Lf.inT B x
  · rw [if_pos hx]
    obtain ⟨h1, h2⟩ := hr.1 hx
    unfold Lf.inT at hx
    have := h2.left hA (Eqv.of_ext hB h x.toNat (by omega))
    omega
  · rw [if_neg hx]; exact hr.2 hx

/-- the same term put into both -/
theorem Eqv.put {A B : List Tm} {t u : Tm} (hk : t.kind = u.kind) (hn : t.n = u.n) (hl : t.args.length = u.args.length) (ha : ∀ (q : Nat) (x y : Int), t.args[q]? = some x → u.args[q]? = some y → Eqv A B x.toNat y.toNat)
    (hA : errOf A t = 0) (hB : errOf B u = 0) (hsA : A.length < 1048576) (hsB : B.length < 1048576) :
    ∃ i j : Nat, (put A t).2.1 = (i : Int) ∧ (put A t).2.2 = 0 ∧ (put B u).2.1 = (j : Int) ∧ (put B u).2.2 = 0 ∧ Eqv (put A t).1 (put B u).1 i j := by
  obtain ⟨i, h1, h2, h3⟩ := putAt hA hsA
  obtain ⟨j, g1, g2, g3⟩ := putAt hB hsB
  exact ⟨i, j, h1, h2, g1, g2, .mk h3 g3 hk hn hl fun q x y hx hy => (ha q x y hx hy).mono (Ext.put _ _) (Ext.put _ _)⟩

/-- what a pair keeps -/
structure PairOk (A B : List Tm) (M : List Nat) : Prop where
  len : M.length ≤ B.length
  at_ : ∀ n x, M[n]? = some x → Eqv A B x n

theorem PairOk.mono {A B A' B' : List Tm} {M : List Nat} (h : PairOk A B M) (hA : Ext A A') (hB : Ext B B') : PairOk A' B' M :=
  ⟨Nat.le_trans h.len hB.len, fun n x hx => (h.at_ n x hx).mono hA hB⟩

/-- the next one of a pair -/
theorem PairOk.next {A B : List Tm} {M : List Nat} (hA : TOk A) (hB : TOk B) (h : PairOk A B M) (hM : M.length < B.length) (hs : A.length < 1048576) {u : Tm} (hu : B[M.length]? = some u) {t : Tm} (ht : t = ⟨u.kind, u.n, u.args.map fun y => (((M[y.toNat]?).getD 0 : Nat) : Int)⟩) :
    ∃ x : Nat, (put A t).2.1 = (x : Int) ∧ (put A t).2.2 = 0 ∧ PairOk (put A t).1 B (M ++ [x]) ∧ (Ext B A → (put A t).1 = A) := by
  have hargs := hB.argsAt hu
  have hMat : ∀ y ∈ u.args, ∃ z, M[y.toNat]? = some z ∧ Eqv A B z y.toNat := by
    intro y hy
    have := hargs y hy
    have hlt : y.toNat < M.length := by omega
    exact ⟨M[y.toNat], List.getElem?_eq_getElem hlt, h.at_ _ _ (List.getElem?_eq_getElem hlt)⟩
  obtain ⟨k1, k2, k3, k4, k5, k6, k7⟩ := errZ (hB.good _ _ hu)
  have tk : t.kind = u.kind := by rw [ht]
  have tn : t.n = u.n := by rw [ht]
  have ta : t.args = u.args.map fun y => (((M[y.toNat]?).getD 0 : Nat) : Int) := by rw [ht]
  have tl : t.args.length = u.args.length := by rw [ta, List.length_map]
  have tq : ∀ (q : Nat) (x y : Int), t.args[q]? = some x → u.args[q]? = some y → Eqv A B x.toNat y.toNat := by
    intro q x y hx hy
    rw [ta, List.getElem?_map, hy] at hx
    obtain ⟨z, hz, he⟩ := hMat y (List.mem_of_getElem? hy)
    simp only [Option.map_some, hz, Option.getD_some, Option.some.injEq] at hx
    rw [← hx, Int.toNat_natCast]
    exact he
  have he : errOf A t = 0 := by
    refine errOk (by rw [tk]; exact ⟨k1, k2⟩) (by rw [tn]; exact k6) ?_ (by rw [tk, tl]; exact k3) (by rw [tk, tl]; exact k4) ?_
    · rw [tk, tn]
      rcases Int.lt_or_le 0 u.n with hp | hp
      · exact .inl (k7 hp)
      · exact .inr (by omega)
    · intro x hx
      rw [ta] at hx
      obtain ⟨y, hy, rfl⟩ := List.mem_map.1 hx
      obtain ⟨z, hz, he⟩ := hMat y hy
      have := he.lt.1
      rw [hz, Option.getD_some]
      unfold Lf.inT; omega
  obtain ⟨x, g1, g2, g3⟩ := putAt he hs
  have hnew : Eqv (Lf.put A t).1 B x M.length := .mk g3 hu tk tn tl fun q x y hx hy => (tq q x y hx hy).mono (Ext.put _ _) (Ext.refl _)
  refine ⟨x, g1, g2, ⟨by simp; omega, fun n y hy => ?_⟩, fun hext => ?_⟩
  · rw [List.getElem?_append] at hy
    split at hy
    · exact (h.at_ n y hy).mono (Ext.put _ _) (Ext.refl _)
    · rename_i hge
      have := (List.getElem?_eq_some_iff.1 hy).1
      simp at this
      have e : n = M.length := by omega
      subst e
      simp at hy
      subst hy
      exact hnew
  · have heq : t = u := by
      refine tm_eq tk tn (args_eq tl fun q x y hx hy => ?_)
      have e1 := tq q x y hx hy
      have h2 := hargs y (List.mem_of_getElem? hy)
      have e2 := e1.left hA (Eqv.of_ext hB hext y.toNat (by omega))
      have h3 : 0 ≤ x := by
        rw [ta, List.getElem?_map, hy] at hx
        simp at hx
        omega
      omega
    rw [heq, put_there hA (hext _ _ hu) (heq ▸ he)]

end Go.Lf
