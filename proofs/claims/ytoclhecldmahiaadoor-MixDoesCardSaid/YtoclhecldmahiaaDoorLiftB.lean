/-
  Terms: the law of an arena (what a term is, what is put, the keys), and maps from texts to numbers.
-/
import Derived.Test.YtoclhecldmahiaaDoorLiftA
import Derived.Lib.AppendIntMem
import Derived.Lib.ItoaLen
import Derived.Laws.IdiomStrings
import Derived.MapKept
import Derived.Laws.CopyRow
set_option linter.unusedVariables false
namespace Go.Lf
open Go Go.RowKit Go.ChangeShapes
set_option linter.unusedVariables false

theorem inc {k : Nat} (h : k < 9223372036854775807) : IntKind.i64.wrap ((k : Int) + 1) = ((k + 1 : Nat) : Int) := by rw [w64 (by omega)]; omega

theorem drop_at {α : Type} {l : List α} {k : Nat} {x : α} (h : l[k]? = some x) : l.drop k = x :: l.drop (k + 1) := by
  obtain ⟨hlt, he⟩ := List.getElem?_eq_some_iff.1 h
  rw [List.drop_eq_getElem_cons hlt, he]

/-! numerals -/

def numOf (l : List UInt8) : Nat := l.foldl (fun a c => a * 10 + (c.toNat - 48)) 0

theorem dig_ok {d : Nat} (h : d < 10) : (UInt8.ofNat (48 + d)).toNat = 48 + d := by
  rw [UInt8.toNat_ofNat']; omega

theorem dec_num (u : Nat) : numOf (Lib.decDigits u) = u := by
  induction u using Nat.strongRecOn with
  | _ u ih =>
    by_cases h : u < 10
    · rw [Lib.decDigits, dif_pos h]
      simp only [numOf, List.foldl_cons, List.foldl_nil]
      rw [dig_ok h]; omega
    · rw [Lib.decDigits, dif_neg h]
      have := ih (u / 10) (by omega)
      unfold numOf at this ⊢
      rw [List.foldl_append, this]
      simp only [List.foldl_cons, List.foldl_nil]
      rw [dig_ok (by omega)]; omega

theorem dec_dig (u : Nat) : ∀ c ∈ Lib.decDigits u, 48 ≤ c.toNat := by
  induction u using Nat.strongRecOn with
  | _ u ih =>
    intro c hc
    by_cases h : u < 10
    · rw [Lib.decDigits, dif_pos h, List.mem_singleton] at hc
      subst hc; rw [dig_ok h]; omega
    · rw [Lib.decDigits, dif_neg h, List.mem_append, List.mem_singleton] at hc
      rcases hc with hc | rfl
      · exact ih (u / 10) (by omega) c hc
      · rw [dig_ok (by omega)]; omega

theorem dec_inj {u v : Nat} (h : Lib.decDigits u = Lib.decDigits v) : u = v := by rw [← dec_num u, h, dec_num v]

theorem itoa_big (n : Int) : ∀ c ∈ Lib.itoa n, c ≠ 32 := by
  intro c hc he
  subst he
  unfold Lib.itoa at hc
  split at hc
  · rcases List.mem_cons.1 hc with hc | hc
    · exact absurd hc (by decide)
    · exact absurd (dec_dig _ _ hc) (by decide)
  · exact absurd (dec_dig _ _ hc) (by decide)

theorem itoa_inj {m n : Int} (h : Lib.itoa m = Lib.itoa n) : m = n := by
  have no : ∀ (l : List UInt8) (u : Nat), Lib.decDigits u = 45 :: l → False := fun l u e => by
    have := dec_dig u 45 (by rw [e]; simp)
    exact absurd this (by decide)
  unfold Lib.itoa at h
  split at h <;> split at h
  · have := dec_inj (List.cons.inj h).2; omega
  · exact absurd h.symm (fun e => no _ _ e)
  · exact absurd h (fun e => no _ _ e)
  · have := dec_inj h; omega

/-- numbers, with a blank behind each -/
def textOf (l : List Int) : List UInt8 := l.flatMap fun x => Lib.itoa x ++ [32]

theorem split_blank : ∀ (a b : List UInt8) {r s : List UInt8}, (∀ c ∈ a, c ≠ 32) → (∀ c ∈ b, c ≠ 32) → a ++ 32 :: r = b ++ 32 :: s → a = b ∧ r = s
  | [], [], r, s, _, _, h => ⟨rfl, (List.cons.inj h).2⟩
  | [], y :: b, r, s, _, hb, h => absurd (List.cons.inj h).1.symm (hb y (by simp))
  | x :: a, [], r, s, ha, _, h => absurd (List.cons.inj h).1 (ha x (by simp))
  | x :: a, y :: b, r, s, ha, hb, h => by
    obtain ⟨h1, h2⟩ := List.cons.inj h
    obtain ⟨h3, h4⟩ := split_blank a b (fun c hc => ha c (by simp [hc])) (fun c hc => hb c (by simp [hc])) h2
    exact ⟨by rw [h1, h3], h4⟩

theorem text_cons (x : Int) (l : List Int) : textOf (x :: l) = Lib.itoa x ++ 32 :: textOf l := by simp [textOf]

theorem text_inj : ∀ {l m : List Int}, textOf l = textOf m → l = m
  | [], [], _ => rfl
  | [], y :: m, h => by rw [text_cons] at h; simp [textOf] at h
  | x :: l, [], h => by rw [text_cons] at h; simp [textOf] at h
  | x :: l, y :: m, h => by
    rw [text_cons, text_cons] at h
    obtain ⟨h1, h2⟩ := split_blank _ _ (itoa_big x) (itoa_big y) h
    rw [itoa_inj h1, text_inj h2]

/-! terms -/

structure Tm where
  kind : Int
  n : Int
  args : List Int
deriving DecidableEq

def Tm.key (t : Tm) : ByteArray := ⟨(textOf (t.kind :: t.n :: t.args)).toArray⟩
theorem Tm.key_inj {t u : Tm} (h : t.key = u.key) : t = u := by
  have h1 : (textOf (t.kind :: t.n :: t.args)).toArray = (textOf (u.kind :: u.n :: u.args)).toArray := congrArg ByteArray.data h
  have h2 := text_inj (List.toArray_inj h1)
  cases t; cases u
  simp only [List.cons.injEq] at h2
  obtain ⟨rfl, rfl, rfl⟩ := h2
  rfl

def least (kind : Int) : Nat := if kind = 1 ∨ kind = 2 then 0 else if kind = 4 ∨ kind = 5 then 1 else if kind = 6 ∨ kind = 8 then 1 else if kind = 7 then 2 else 0
def mostOf (kind : Int) : Nat := if kind = 1 ∨ kind = 2 then 0 else if kind = 4 ∨ kind = 5 then 1 else 400
def numbered (kind : Int) : Prop := kind = 1 ∨ kind = 2 ∨ kind = 4
instance (kind : Int) : Decidable (numbered kind) := by unfold numbered; infer_instance

def inT (T : List Tm) (x : Int) : Prop := 0 ≤ x ∧ x < T.length
instance (T : List Tm) (x : Int) : Decidable (inT T x) := by unfold inT; infer_instance

/-- what is said of a term that is told to an arena of the terms T (0: it may be) -/
def errOf (T : List Tm) (t : Tm) : Int :=
  if ¬ (1 ≤ t.kind ∧ t.kind ≤ 9) then 6 else if t.n < 0 ∨ 0 < t.n ∧ ¬ numbered t.kind then 1 else if t.args.length < least t.kind ∨ mostOf t.kind < t.args.length then 2
  else if ¬ ∀ x ∈ t.args, inT T x then 8 else 0

def place (T : List Tm) (t : Tm) : Option Nat := T.findIdx? fun u => decide (u = t)

def put (T : List Tm) (t : Tm) : List Tm × Int × Int :=
  if errOf T t ≠ 0 then (T, 0, errOf T t) else
  match place T t with
  | some i => (T, (i : Int), 0)
  | none => if 1048576 ≤ T.length then (T, 0, 7) else (T ++ [t], (T.length : Int), 0)

/-- the arenas that come of putting -/
structure TOk (T : List Tm) : Prop where
  few : T.length ≤ 1048576
  good : ∀ (i : Nat) (t : Tm), T[i]? = some t → errOf (T.take i) t = 0
  once : ∀ (i j : Nat) (t : Tm), T[i]? = some t → T[j]? = some t → i = j

theorem TOk.nil : TOk [] := ⟨by simp, by simp, by simp⟩

theorem place_some {T : List Tm} {t : Tm} {i : Nat} (h : place T t = some i) : T[i]? = some t := by
  unfold place at h
  rw [List.findIdx?_eq_some_iff_getElem] at h
  obtain ⟨h1, h2, _⟩ := h
  simp at h2
  rw [List.getElem?_eq_getElem h1, h2]
theorem place_none {T : List Tm} {t : Tm} (h : place T t = none) : ∀ u ∈ T, u ≠ t := by
  unfold place at h
  rw [List.findIdx?_eq_none_iff] at h
  intro u hu
  simpa using h u hu
theorem TOk.place {T : List Tm} (h : TOk T) {t : Tm} {i : Nat} (hi : T[i]? = some t) : place T t = some i := by
  cases hp : Go.Lf.place T t with
  | none => exact absurd rfl (place_none hp t (List.mem_of_getElem? hi))
  | some j => rw [h.once j i t (place_some hp) hi]

theorem TOk.put {T : List Tm} (h : TOk T) (t : Tm) : TOk (put T t).1 := by
  unfold Go.Lf.put
  split
  · exact h
  · rename_i he
    cases hp : Go.Lf.place T t with
    | some i => exact h
    | none =>
      by_cases hf : 1048576 ≤ T.length
      · rw [if_pos hf]; exact h
      rw [if_neg hf]
      have hn := place_none hp
      refine ⟨by simp; omega, fun i u hu => ?_, fun i j u hi hj => ?_⟩
      · rw [List.getElem?_append] at hu
        split at hu
        · rename_i hlt
          rw [List.take_append_of_le_length (by omega)]
          exact h.good i u hu
        · rename_i hge
          have hi : i = T.length := by
            have := (List.getElem?_eq_some_iff.1 hu).1
            simp at this; omega
          subst hi
          simp at hu
          subst hu
          rw [List.take_append_of_le_length (Nat.le_refl _), List.take_length]
          exact Decidable.not_not.1 he
      · rw [List.getElem?_append] at hi hj
        split at hi <;> split at hj
        · exact h.once i j u hi hj
        · have := (List.getElem?_eq_some_iff.1 hj).1
          rw [List.length_singleton] at this
          rw [show j - T.length = 0 by omega] at hj
          simp at hj
          subst hj
          exact absurd rfl (hn _ (List.mem_of_getElem? hi))
        · have := (List.getElem?_eq_some_iff.1 hi).1
          rw [List.length_singleton] at this
          rw [show i - T.length = 0 by omega] at hi
          simp at hi
          subst hi
          exact absurd rfl (hn _ (List.mem_of_getElem? hj))
        · have h1 := (List.getElem?_eq_some_iff.1 hi).1
          have h2 := (List.getElem?_eq_some_iff.1 hj).1
          simp at h1 h2; omega

/-! a map from texts to their places -/

def entsFrom : Nat → List ByteArray → List MapEntry
  | _, [] => []
  | i, k :: r => ⟨.string k, .int .i64 (i : Int), i⟩ :: entsFrom (i + 1) r

theorem entsFrom_app : ∀ (l m : List ByteArray) (i : Nat), entsFrom i (l ++ m) = entsFrom i l ++ entsFrom (i + l.length) m
  | [], m, i => rfl
  | k :: l, m, i => by
    simp only [List.cons_append, entsFrom, List.length_cons]
    rw [entsFrom_app l m (i + 1), show i + 1 + l.length = i + (l.length + 1) by omega]

theorem bytes_refl (a : ByteArray) : (a == a) = true := by rw [beq_toListBytes]; simp
theorem bytes_ne {a b : ByteArray} (h : a ≠ b) : (a == b) = false := by
  rw [beq_toListBytes]
  simp only [beq_eq_false_iff_ne, ne_eq]
  intro e
  rw [ByteArray.toList_eq, ByteArray.toList_eq] at e
  exact h (Go.WideShapes.bytes_inj e)

theorem findNow_ents (s : ByteArray) : ∀ (ks : List ByteArray) (i j : Nat), Instr.findNow .string (.string s) (entsFrom i ks) j =
    some ((ks.findIdx? fun k => decide (k = s)).map fun n => (j + n, Value.int .i64 ((i + n : Nat) : Int)))
  | [], i, j => rfl
  | k :: ks, i, j => by
    have e1 : Instr.sameNow .string (.string s) (.string k) = some (s == k) := rfl
    unfold entsFrom Instr.findNow
    simp only [e1]
    rw [List.findIdx?_cons]
    by_cases hk : k = s
    · subst hk
      rw [bytes_refl]; simp
    · rw [bytes_ne fun e => hk e.symm, if_neg (by simpa using hk)]
      simp only
      rw [findNow_ents s ks (i + 1) (j + 1)]
      congr 1
      cases ks.findIdx? fun k => decide (k = s) with
      | none => rfl
      | some n =>
        simp only [Option.map_some, Option.some.injEq, Prod.mk.injEq, Value.int.injEq, true_and]
        omega

def mapA (b : Nat) (ks : List ByteArray) : Asn where
  on F w := F b ∧ w.heap[b]? = some (.map (entsFrom 0 ks).toArray ks.length)
  loc := fun ⟨h1, h2⟩ h => ⟨h1, by rw [h b h1]; exact h2⟩
  grow := fun ⟨h1, h2⟩ h => ⟨h b h1, h2⟩

theorem Sep.mapNew {B : Nat} {w : World} {R : List Asn} (h : Sep B w R) : Sep B (w.alloc (.map #[] 0)) (mapA w.heap.size [] :: R) ∧ Below B w (w.alloc (.map #[] 0)) := by
  have hb := below_alloc w (.map #[] 0)
  exact ⟨h.new (F := fun i => i = w.heap.size) ⟨rfl, (MapKept.heap_alloc w _).1⟩ (fun i hi => by subst hi; rw [size_alloc]; omega) hb, hb.mono h.le⟩

section
variable {P : Program} {T k e : TypeId} (ht : P.underlying T = some (.map k e)) (hk : P.underlying k = some .string)
include ht hk
theorem look_map {w : World} {b : Nat} {ks : List ByteArray} (hz : (zeroValue e).run P w = .ok (.int .i64 0) w) (h : w.heap[b]? = some (.map (entsFrom 0 ks).toArray ks.length)) (s : ByteArray) :
    (do pure (.value (← Instr.lookup T (.map (some b)) (.string s) true)) : Sem Next).run P w = .ok (.value (.tuple #[.int .i64 (match ks.findIdx? fun k => decide (k = s) with | some n => (n : Int) | none => 0), .bool (ks.findIdx? fun k => decide (k = s)).isSome])) w := by
  have hf : (Instr.findKey k (.string s) (entsFrom 0 ks)).run P w = .ok ((ks.findIdx? fun k => decide (k = s)).map fun n => (0 + n, Value.int .i64 ((0 + n : Nat) : Int))) w := by
    unfold Instr.findKey
    simp [run_underlying hk, findNow_ents, Result.andThen]
  have hc : ∀ em, (Instr.checkKey em 10000 k (.string s)).run P w = .ok () w := fun em => by
    unfold Instr.checkKey
    simp [run_underlying hk, Result.andThen]
  cases hj : ks.findIdx? fun k => decide (k = s) with
  | none =>
    rw [hj] at hf
    simp only [Option.map_none] at hf
    simp [Instr.lookup, run_underlying ht, MapKept.run_getObj_map h, hc, hf, hz, Result.andThen]
  | some n =>
    rw [hj] at hf
    simp only [Option.map_some] at hf
    simp [Instr.lookup, run_underlying ht, MapKept.run_getObj_map h, hc, hf, Result.andThen]

theorem store_map {w : World} {b : Nat} {ks : List ByteArray} (h : w.heap[b]? = some (.map (entsFrom 0 ks).toArray ks.length)) {s : ByteArray} (hs : ks.findIdx? (fun k => decide (k = s)) = none) :
    (do Instr.mapUpdate T (.map (some b)) (.string s) (.int .i64 ((ks.length : Nat) : Int)); pure .skip : Sem Next).run P w = .ok .skip (ChangeMaps.setBlock w b (.map (entsFrom 0 (ks ++ [s])).toArray (ks ++ [s]).length)) := by
  have hf : (Instr.findKey k (.string s) (entsFrom 0 ks)).run P w = .ok none w := by
    unfold Instr.findKey
    simp [run_underlying hk, findNow_ents, hs, Result.andThen]
  have hc : (Instr.checkKey false 10000 k (.string s)).run P w = .ok () w := by
    unfold Instr.checkKey
    simp [run_underlying hk, Result.andThen]
  have he : (entsFrom 0 (ks ++ [s])).toArray = (entsFrom 0 ks).toArray.push ⟨.string s, .int .i64 ((ks.length : Nat) : Int), ks.length⟩ := by
    rw [entsFrom_app]; simp [entsFrom]
  rw [he]
  simp [Instr.mapUpdate, run_underlying ht, MapKept.run_getObj_map h, hc, hf, MapKept.run_setObj_map _ h, Result.andThen, ChangeMaps.setBlock]
end

theorem Sep.mapStore {B : Nat} {w : World} {l : List Asn} (k : Nat) {b : Nat} {ks : List ByteArray} (hk : l[k]? = some (mapA b ks)) (h : Sep B w l) (ks' : List ByteArray) :
    Sep B (ChangeMaps.setBlock w b (.map (entsFrom 0 ks').toArray ks'.length)) (l.set k (mapA b ks')) ∧ Below B w (ChangeMaps.setBlock w b (.map (entsFrom 0 ks').toArray ks'.length)) := by
  obtain ⟨F, ⟨h1, h2⟩, hF, back⟩ := h.at k hk
  have hg : w.grownBy (ChangeMaps.setBlock w b (.map (entsFrom 0 ks').toArray ks'.length)) (some b) :=
    ⟨rfl, rfl, rfl, by simp [ChangeMaps.setBlock], fun i _ hi => ChangeMaps.heap_setBlock_other h2 _ (fun e => hi (by rw [e]))⟩
  have hc : Chg F w (ChangeMaps.setBlock w b (.map (entsFrom 0 ks').toArray ks'.length)) := Chg.of_grown hg fun i hi => by cases hi; exact h1
  exact ⟨back ⟨h1, ChangeMaps.heap_setBlock_same h2 _⟩ hc fun i hi => ⟨.inl hi, Nat.lt_of_lt_of_le (hF i hi).2 hc.size⟩, hc.below (fun i hi => (hF i hi).1) h.le⟩

theorem Sep.mapAt {B : Nat} {w : World} {l : List Asn} (k : Nat) {b : Nat} {ks : List ByteArray} (hk : l[k]? = some (mapA b ks)) (h : Sep B w l) : w.heap[b]? = some (.map (entsFrom 0 ks).toArray ks.length) := by
  obtain ⟨F, ⟨h1, h2⟩, _⟩ := h.get k hk
  exact h2

end Go.Lf

/-
  Numbers behind numbers; arenas.
-/
namespace Go.Lf
open Go Go.RowKit Go.ChangeShapes
set_option linter.unusedVariables false

/-- all of a slice behind numbers of the call's own -/
theorem append_more {P : Program} {t ty e : TypeId} {i : TypeInfo} {z : Value} {bytes : Nat} {k : IntKind} (ht : P.underlying t = some (.slice e)) (hi : P.info? e = some i) (hz : i.zero = some z) (hsize : i.size = 1) (hby : i.bytes = bytes) (hzs : z.cells.size = 1)
    {B : Nat} {w : World} {d s : Sl} {ys xs : List Int} (hd : OwnI B e k w d ys) (hB : B ≤ w.heap.size) (h : Ints k w s xs) (hm : ys.length + xs.length ≤ maxLen) (hb : (ys.length + xs.length) * bytes ≤ 140737488355328) :
    ∃ s' : Sl, ∃ w', (builtin .append #[t, t] ty #[] #[.slice d.a d.len d.cap, .slice s.a s.len s.cap]).run P w = .ok (.value (.slice s'.a s'.len s'.cap)) w' ∧ OwnI B e k w' s' (ys ++ xs) ∧ Below B w w' := by
  have hlen := h.len
  cases ha : s.a with
  | none =>
    have hx : xs = [] := by
      cases xs with
      | nil => rfl
      | cons x xs => obtain ⟨q, hq, _⟩ := h.cell 0 x rfl; rw [ha] at hq; cases hq
    subst hx
    have h0 : s.len = 0 := by simpa using hlen
    refine ⟨d, w, ?_, by rw [List.append_nil]; exact hd, Below.refl _ _⟩
    have hdc : d.len ≤ d.cap := by
      rcases hd.2 with ⟨h1, _⟩ | ⟨g, cap, cur, h1, _, _, hc, _⟩
      · simp only [Value.slice.injEq] at h1; omega
      · simp only [Value.slice.injEq] at h1; omega
    cases hda : d.a with
    | none => 
      rcases hd.2 with ⟨h1, _⟩ | ⟨g, cap, cur, h1, _⟩
      · simp only [Value.slice.injEq] at h1
        simp [builtin, Builtin.append_, run_underlying ht, run_sizeOf' hi, hsize, Builtin.lenOf, Builtin.firstCells, h0, h1.2.1, h1.2.2]
      · simp only [Value.slice.injEq] at h1; rw [hda] at h1; cases h1.1
    | some a =>
      simp [builtin, Builtin.append_, run_underlying ht, run_sizeOf' hi, hsize, Builtin.lenOf, Builtin.firstCells, h0, hdc, storeCells]
  | some a =>
    obtain ⟨v', w', hr, hown, hg, hn⟩ := run_append_own (P := P) w B t ty e i z 1 bytes ht hi hz hsize hby hzs (by omega) _ ys.length (ys.map (Value.int k)) hd a s.len s.cap (xs.map (Value.int k)) (by simp [hlen]) (ints_news h ha)
      one_ints (by rw [hlen]; exact hm) (by rw [hlen]; exact hb) hB
    have hv : ∃ s' : Sl, v' = .slice s'.a s'.len s'.cap := by
      rcases hown.2 with ⟨rfl, h0⟩ | ⟨g, cap, cur, rfl, _⟩
      · exact ⟨⟨none, 0, 0⟩, rfl⟩
      · exact ⟨⟨some ⟨g, 0, none⟩, _, cap⟩, rfl⟩
    obtain ⟨s', rfl⟩ := hv
    refine ⟨s', w', by simp [builtin, hr], ?_, (Below.refl B w).grown hg hB fun k hk => (hd.lt k hk).1⟩
    unfold OwnI
    rw [hlen, ← List.map_append] at hown
    rw [List.length_append]
    exact hown

theorem made_ints {w : World} {e : TypeId} {k : IntKind} {xs : List Int} (hx : xs.length ≤ maxLen) : OwnI w.heap.size e k (w.alloc (.cells (xs.map (Value.int k)).toArray e)) ⟨some (newA w), xs.length, xs.length⟩ xs :=
  row_made (by simp) hx

/-- what is behind the first ones -/
theorem Ints.drop {k : IntKind} {w : World} {s : Sl} {xs : List Int} (h : Ints k w s xs) {m : Nat} (hm : m ≤ xs.length) (hc : s.len ≤ s.cap) :
    Ints k w ⟨if s.cap = m then s.a else s.a.map (·.add m), s.len - m, s.cap - m⟩ (xs.drop m) := by
  have hl := h.len
  refine ⟨by simp [hl], by have := h.small; show s.len - m ≤ _; omega, fun i x hx => ?_⟩
  rw [List.getElem?_drop] at hx
  obtain ⟨p, hp, hlt, hcc⟩ := h.cell (m + i) x hx
  have := (List.getElem?_eq_some_iff.1 hx).1
  refine ⟨p.add m, ?_, by rw [add_block]; exact hlt, by rw [add_add]; exact hcc⟩
  show (if s.cap = m then s.a else s.a.map (·.add m)) = _
  rw [if_neg (by omega), hp]; rfl

/-! arenas -/

theorem _root_.Go.Lf.Sep.swapIn {B : Nat} {w : World} {l : List Asn} {A : Asn} (k : Nat) (hk : k < l.length) (h : Sep B w (A :: l)) : Sep B w (l.set k A) := by
  have h1 : Sep B w (A :: l[k] :: l.eraseIdx k) := h.perm ((perm_front (List.getElem?_eq_getElem hk)).cons A)
  exact (h1.swap.drop).back k hk

abbrev Nds := List (Tm × Sl)
def nodeC (x : Tm × Sl) : List Value := [.int .i64 x.1.kind, .int .i64 x.1.n, .slice x.2.a x.2.len x.2.cap]
theorem nodeC.w (x : Tm × Sl) : (nodeC x).length = 3 := rfl
def terms (N : Nds) : List Tm := N.map (·.1)
def argsL (N : Nds) : List (Sl × List Int) := N.map fun x => (x.2, x.1.args)
theorem terms_len (N : Nds) : (terms N).length = N.length := by simp [terms]
theorem terms_app (N M : Nds) : terms (N ++ M) = terms N ++ terms M := by simp [terms]
theorem terms_at {N : Nds} {i : Nat} {x : Tm × Sl} (h : N[i]? = some x) : (terms N)[i]? = some x.1 := by simp [terms, h]
theorem terms_of {N : Nds} {i : Nat} {t : Tm} (h : (terms N)[i]? = some t) : ∃ s, N[i]? = some (t, s) := by
  unfold terms at h
  rw [List.getElem?_map, Option.map_eq_some_iff] at h
  obtain ⟨x, hx, rfl⟩ := h
  exact ⟨x.2, hx⟩

/-- slices are no longer than there is room -/
def capA (N : Nds) : Asn where
  on _ _ := ∀ x ∈ N, x.2.len ≤ x.2.cap
  loc := fun h _ => h
  grow := fun h _ => h

def arL (ty : TypeId) (p : Addr) (N : Nds) (s : Sl) (m : Nat) : List Asn :=
  [boxA p [.slice s.a s.len s.cap, .map (some m)], rowA ty 3 s N.length (flat nodeC N), mapA m ((terms N).map Tm.key), intsAll .i64 (argsL N)]
def pgL (ty : TypeId) (p : Addr) (N : Nds) (s : Sl) : List Asn :=
  [boxA p [.slice s.a s.len s.cap], rowA ty 3 s N.length (flat nodeC N), intsAll .i64 (argsL N)]
def capsOk (N : Nds) : Prop := ∀ x ∈ N, x.2.len ≤ x.2.cap
def arenaA (ty : TypeId) (p : Addr) (N : Nds) : Asn := exA (fun _ : Sl × Nat => TOk (terms N) ∧ capsOk N) fun x => arL ty p N x.1 x.2
def pageA (ty : TypeId) (p : Addr) (N : Nds) : Asn := exA (fun _ : Sl => TOk (terms N) ∧ capsOk N) fun s => pgL ty p N s

theorem OwnI.cap {B : Nat} {e : TypeId} {k : IntKind} {w : World} {s : Sl} {xs : List Int} (h : OwnI B e k w s xs) : s.len ≤ s.cap := by
  rcases h.2 with ⟨h1, _⟩ | ⟨g, cap, cur, h1, _, _, hc, _⟩
  · simp only [Value.slice.injEq] at h1; omega
  · simp only [Value.slice.injEq] at h1; omega

theorem keys_find (T : List Tm) (t : Tm) : ((T.map Tm.key).findIdx? fun k => decide (k = t.key)) = place T t := by
  rw [List.findIdx?_map]
  unfold place
  congr 1
  funext u
  simp only [Function.comp_apply, decide_eq_decide]
  exact ⟨Tm.key_inj, fun h => by rw [h]⟩

end Go.Lf

/-
  What is beneath a term: the law of the marks.
-/
namespace Go.Lf
open Go Go.RowKit Go.ChangeShapes
set_option linter.unusedVariables false

def tmAt (T : List Tm) (i : Int) : Tm := (T[i.toNat]?).getD ⟨0, 0, []⟩

def markL (bs : List Bool) (xs : List Int) : List Bool := xs.foldl (fun b x => b.set x.toNat true) bs
theorem mark_nil (bs : List Bool) : markL bs [] = bs := rfl
theorem mark_more (bs : List Bool) (xs : List Int) (x : Int) : markL bs (xs ++ [x]) = (markL bs xs).set x.toNat true := by simp [markL]
theorem mark_len : ∀ (xs : List Int) (bs : List Bool), (markL bs xs).length = bs.length
  | [], bs => rfl
  | x :: r, bs => by
    show (markL (bs.set x.toNat true) r).length = _
    rw [mark_len r, List.length_set]
theorem mark_take (m : Nat) : ∀ (xs : List Int) (bs : List Bool), markL (bs.take m) xs = (markL bs xs).take m
  | [], bs => rfl
  | x :: r, bs => by
    show markL ((bs.take m).set x.toNat true) r = (markL (bs.set x.toNat true) r).take m
    rw [← mark_take m r, List.take_set]
theorem mark_other {j : Nat} : ∀ (xs : List Int) (bs : List Bool), (∀ x ∈ xs, x.toNat ≠ j) → (markL bs xs)[j]? = bs[j]?
  | [], bs, _ => rfl
  | x :: r, bs, h => by
    show (markL (bs.set x.toNat true) r)[j]? = _
    rw [mark_other r _ (fun y hy => h y (by simp [hy])), List.getElem?_set_ne (h x (by simp))]

def sweep (T : List Tm) : Nat → List Bool → List Bool
  | 0, bs => bs
  | n + 1, bs => sweep T n (if bs[n]?.getD false = true then markL bs (tmAt T (n : Int)).args else bs)

theorem sweep_len (T : List Tm) : ∀ (n : Nat) (bs : List Bool), (sweep T n bs).length = bs.length
  | 0, bs => rfl
  | n + 1, bs => by
    unfold sweep
    rw [sweep_len T n]
    split
    · rw [mark_len]
    · rfl
theorem sweep_take (T : List Tm) (m : Nat) : ∀ (n : Nat) (bs : List Bool), n ≤ m → sweep T n (bs.take m) = (sweep T n bs).take m
  | 0, bs, _ => rfl
  | n + 1, bs, h => by
    have e : (bs.take m)[n]? = bs[n]? := by rw [List.getElem?_take, if_pos (by omega)]
    unfold sweep
    rw [e]
    split
    · rw [mark_take]; exact sweep_take T m n _ (by omega)
    · exact sweep_take T m n _ (by omega)

/-- the args of each stand ahead of it -/
def Down (T : List Tm) : Prop := ∀ (n : Nat), n < T.length → ∀ x ∈ (tmAt T (n : Int)).args, 0 ≤ x ∧ x < n

theorem sweep_above {T : List Tm} (hd : Down T) : ∀ (n : Nat) (bs : List Bool) (j : Nat), n ≤ T.length → n ≤ j → (sweep T n bs)[j]? = bs[j]?
  | 0, bs, j, _, _ => rfl
  | n + 1, bs, j, hn, hj => by
    unfold sweep
    rw [sweep_above hd n _ j (by omega) (by omega)]
    split
    · refine mark_other _ _ fun x hx => ?_
      have := hd n (by omega) x hx
      omega
    · rfl

def finT (T : List Tm) (m i : Nat) : List Bool := sweep T (i + 1) ((List.replicate m false).set i true)
def isU (T : List Tm) (i k : Nat) : Bool := (finT T (i + 1) i)[k]?.getD false
def underT (T : List Tm) (i : Nat) : List Int := ((List.range (i + 1)).filter (isU T i)).map fun k => ((k : Nat) : Int)

theorem fin_take {T : List Tm} {m i : Nat} (h : i + 1 ≤ m) : finT T (i + 1) i = (finT T m i).take (i + 1) := by
  unfold finT
  rw [← sweep_take T (i + 1) (i + 1) _ (Nat.le_refl _), List.take_set, List.take_replicate, Nat.min_eq_left h]

theorem fin_isU {T : List Tm} {m i k : Nat} (h : i + 1 ≤ m) (hk : k ≤ i) : (finT T m i)[k]?.getD false = isU T i k := by
  unfold isU
  rw [fin_take h, List.getElem?_take, if_pos (by omega)]

theorem fin_above {T : List Tm} (hd : Down T) {m i k : Nat} (hi : i < T.length) (hk : i < k) : (finT T m i)[k]?.getD false = false := by
  unfold finT
  rw [sweep_above hd _ _ _ (by omega) (by omega), List.getElem?_set_ne (by omega), List.getElem?_replicate]
  split <;> rfl

theorem under_all {T : List Tm} (hd : Down T) {i : Nat} (hi : i < T.length) {m : Nat} (hm : i + 1 ≤ m) : ((List.range m).filter fun k => (finT T m i)[k]?.getD false).map (fun k => ((k : Nat) : Int)) = underT T i := by
  unfold underT
  congr 1
  obtain ⟨d, rfl⟩ : ∃ d, m = i + 1 + d := ⟨m - (i + 1), by omega⟩
  rw [List.range_add, List.filter_append]
  have e2 : ((List.range d).map (i + 1 + ·)).filter (fun k => (finT T (i + 1 + d) i)[k]?.getD false) = [] := by
    rw [List.filter_eq_nil_iff]
    intro k hk
    obtain ⟨j, _, rfl⟩ := List.mem_map.1 hk
    rw [fin_above hd hi (by omega)]
    simp
  rw [e2, List.append_nil]
  refine List.filter_congr fun k hk => ?_
  have := List.mem_range.1 hk
  exact fin_isU hm (by omega)

theorem mark_mem {k : Nat} : ∀ (xs : List Int) (bs : List Bool), k < bs.length → ((markL bs xs)[k]?.getD false = true ↔ bs[k]?.getD false = true ∨ ∃ x ∈ xs, x.toNat = k)
  | [], bs, h => by simp [markL]
  | x :: r, bs, h => by
    show (markL (bs.set x.toNat true) r)[k]?.getD false = true ↔ _
    rw [mark_mem r _ (by rw [List.length_set]; exact h), List.getElem?_set]
    by_cases hx : x.toNat = k
    · rw [if_pos hx, if_pos (by rw [hx]; exact h)]
      simp only [Option.getD_some, true_or, true_iff]
      exact .inr ⟨x, by simp, hx⟩
    · rw [if_neg hx]
      simp [hx]

inductive U (T : List Tm) : Nat → Nat → Prop
  | refl (i : Nat) : U T i i
  | step {i k : Nat} {x : Int} (hx : x ∈ (tmAt T (i : Int)).args) (h : U T x.toNat k) : U T i k

theorem U.le {T : List Tm} (hd : Down T) {i k : Nat} (h : U T i k) : i < T.length → k ≤ i := by
  induction h with
  | refl i => intro _; exact Nat.le_refl _
  | step hx h ih =>
    intro hi
    have := hd _ hi _ hx
    have := ih (by omega)
    omega

theorem sweep_mem {T : List Tm} (hd : Down T) {k : Nat} : ∀ (n : Nat) (bs : List Bool), n ≤ T.length → n ≤ bs.length → k < bs.length →
    ((sweep T n bs)[k]?.getD false = true ↔ bs[k]?.getD false = true ∨ ∃ j, j < n ∧ bs[j]?.getD false = true ∧ U T j k)
  | 0, bs, _, _, _ => by
    constructor
    · exact .inl
    · rintro (h | ⟨j, hj, _⟩)
      · exact h
      · omega
  | n + 1, bs, hn, hl, hk => by
    unfold sweep
    by_cases hb : bs[n]?.getD false = true
    · rw [if_pos hb, sweep_mem hd n _ (by omega) (by rw [mark_len]; omega) (by rw [mark_len]; exact hk), mark_mem _ _ hk]
      constructor
      · rintro ((h | ⟨x, hx, rfl⟩) | ⟨j, hj, h1, h2⟩)
        · exact .inl h
        · exact .inr ⟨n, by omega, hb, .step hx (.refl _)⟩
        · rw [mark_mem _ _ (by omega)] at h1
          rcases h1 with h1 | ⟨x, hx, rfl⟩
          · exact .inr ⟨j, by omega, h1, h2⟩
          · exact .inr ⟨n, by omega, hb, .step hx h2⟩
      · rintro (h | ⟨j, hj, h1, h2⟩)
        · exact .inl (.inl h)
        · by_cases hjn : j = n
          · subst hjn
            cases h2 with
            | refl => exact .inl (.inl hb)
            | step hx h2 =>
              have := hd j (by omega) _ hx
              exact .inr ⟨_, by omega, by rw [mark_mem _ _ (by omega)]; exact .inr ⟨_, hx, rfl⟩, h2⟩
          · exact .inr ⟨j, by omega, by rw [mark_mem _ _ (by omega)]; exact .inl h1, h2⟩
    · rw [if_neg hb, sweep_mem hd n bs (by omega) (by omega) hk]
      constructor
      · rintro (h | ⟨j, hj, h1, h2⟩)
        · exact .inl h
        · exact .inr ⟨j, by omega, h1, h2⟩
      · rintro (h | ⟨j, hj, h1, h2⟩)
        · exact .inl h
        · by_cases hjn : j = n
          · subst hjn; exact absurd h1 hb
          · exact .inr ⟨j, by omega, h1, h2⟩

theorem start_mem {m i k : Nat} (hi : i < m) (hk : k < m) : ((List.replicate m false).set i true)[k]?.getD false = true ↔ k = i := by
  rw [List.getElem?_set]
  by_cases h : i = k
  · subst h
    rw [if_pos rfl, if_pos (by simpa using hi)]; simp
  · rw [if_neg h, List.getElem?_replicate, if_pos hk]
    simp; omega

theorem fin_mem {T : List Tm} (hd : Down T) {m i k : Nat} (hi : i < T.length) (him : i < m) (hk : k < m) : (finT T m i)[k]?.getD false = true ↔ U T i k := by
  unfold finT
  rw [sweep_mem hd _ _ (by omega) (by simp; omega) (by simpa using hk), start_mem him hk]
  constructor
  · rintro (rfl | ⟨j, hj, h1, h2⟩)
    · exact .refl _
    · rw [start_mem him (by omega)] at h1
      subst h1; exact h2
  · intro h
    exact .inr ⟨i, by omega, (start_mem him him).2 rfl, h⟩

theorem isU_iff {T : List Tm} (hd : Down T) {i k : Nat} (hi : i < T.length) : isU T i k = true ↔ U T i k := by
  by_cases hk : k < i + 1
  · exact fin_mem hd hi (by omega) hk
  · constructor
    · intro h
      unfold isU at h
      rw [List.getElem?_eq_none (by unfold finT; rw [sweep_len]; simp; omega)] at h
      cases h
    · intro h
      have := h.le hd hi
      omega

theorem under_mem {T : List Tm} (hd : Down T) {i : Nat} (hi : i < T.length) {x : Int} : x ∈ underT T i ↔ ∃ k : Nat, x = k ∧ U T i k := by
  unfold underT
  rw [List.mem_map]
  constructor
  · rintro ⟨k, hk, rfl⟩
    rw [List.mem_filter] at hk
    exact ⟨k, rfl, (isU_iff hd hi).1 hk.2⟩
  · rintro ⟨k, rfl, hk⟩
    refine ⟨k, ?_, rfl⟩
    rw [List.mem_filter, List.mem_range]
    exact ⟨by have := hk.le hd hi; omega, (isU_iff hd hi).2 hk⟩

def wantL (T : List Tm) (bs : List Bool) (args : List Int) : List Bool := args.foldl (fun b a => markL b (underT T a.toNat)) bs
theorem want_len (T : List Tm) : ∀ (args : List Int) (bs : List Bool), (wantL T bs args).length = bs.length
  | [], bs => rfl
  | a :: r, bs => by
    show (wantL T (markL bs (underT T a.toNat)) r).length = _
    rw [want_len T r, mark_len]
theorem want_mem {T : List Tm} (hd : Down T) {k : Nat} : ∀ (args : List Int) (bs : List Bool), (∀ a ∈ args, a.toNat < T.length) → k < bs.length → ((wantL T bs args)[k]?.getD false = true ↔ bs[k]?.getD false = true ∨ ∃ a ∈ args, U T a.toNat k)
  | [], bs, _, _ => by simp [wantL]
  | a :: r, bs, ha, hk => by
    show (wantL T (markL bs (underT T a.toNat)) r)[k]?.getD false = true ↔ _
    rw [want_mem hd r _ (fun x hx => ha x (by simp [hx])) (by rw [mark_len]; exact hk), mark_mem _ _ hk]
    constructor
    · rintro ((h | ⟨x, hx, rfl⟩) | ⟨y, hy, h⟩)
      · exact .inl h
      · obtain ⟨k, rfl, hu⟩ := (under_mem hd (ha a (by simp))).1 hx
        exact .inr ⟨a, by simp, by rw [Int.toNat_natCast]; exact hu⟩
      · exact .inr ⟨y, by simp [hy], h⟩
    · rintro (h | ⟨y, hy, h⟩)
      · exact .inl (.inl h)
      · rcases List.mem_cons.1 hy with rfl | hy
        · exact .inl (.inr ⟨(k : Int), (under_mem hd (ha y (by simp))).2 ⟨k, rfl, h⟩, by omega⟩)
        · exact .inr ⟨y, hy, h⟩

theorem want_under {T : List Tm} (hd : Down T) {i : Nat} (hi : i < T.length) :
    ((List.range T.length).filter fun k => (wantL T ((List.replicate T.length false).set i true) (tmAt T (i : Int)).args)[k]?.getD false).map (fun k => ((k : Nat) : Int)) = underT T i := by
  rw [← under_all hd hi (m := T.length) (by omega)]
  congr 1
  refine List.filter_congr fun k hk => ?_
  have hk := List.mem_range.1 hk
  rw [Bool.eq_iff_iff, want_mem hd _ _ (fun a ha => by have := hd i hi a ha; omega) (by simpa using hk), start_mem hi hk, fin_mem hd hi hi hk]
  constructor
  · rintro (rfl | ⟨a, ha, h⟩)
    · exact .refl _
    · exact .step ha h
  · intro h
    cases h with
    | refl => exact .inl rfl
    | step hx h => exact .inr ⟨_, hx, h⟩

end Go.Lf

/-
  What is known: the law of it, and that working off what waits tells just that.
-/
namespace Go.Lf
open Go Go.RowKit Go.ChangeShapes
set_option linter.unusedVariables false

def kd (T : List Tm) (i : Nat) : Int := (tmAt T (i : Int)).kind
def ar (T : List Tm) (i : Nat) : List Nat := (tmAt T (i : Int)).args.map Int.toNat
def a0 (T : List Tm) (i : Nat) : Nat := (ar T i)[0]?.getD 0
def a1 (T : List Tm) (i : Nat) : Nat := (ar T i)[1]?.getD 0

inductive Kn (T : List Tm) (S : Nat → Prop) : Nat → Prop
  | start {i : Nat} (h : S i) : Kn T S i
  | made {i : Nat} (hi : i < T.length) (hk : kd T i ≠ 1) (h : ∀ x, x ∈ ar T i → Kn T S x) : Kn T S i
  | list {i x : Nat} (h : Kn T S i) (hk : kd T i = 9) (hx : x ∈ ar T i) : Kn T S x
  | sig {i x : Nat} (h : Kn T S i) (hk : kd T i = 8) (hx : x ∈ (ar T i).drop 1) : Kn T S x
  | lock {i x : Nat} (h : Kn T S i) (hk : kd T i = 6) (h0 : Kn T S (a0 T i)) (hx : x ∈ (ar T i).drop 1) : Kn T S x
  | box1 {i x : Nat} (h : Kn T S i) (hk : kd T i = 7) (h1 : Kn T S (a1 T i)) (hx : x ∈ (ar T i).drop 2) : Kn T S x
  | box2 {i x : Nat} (h : Kn T S i) (hk : kd T i = 7) (hp : kd T (a0 T i) = 5) (h0 : Kn T S (a0 T (a0 T i))) (hx : x ∈ (ar T i).drop 2) : Kn T S x

/-- what is worked with -/
structure KS where
  is : List Bool
  wait : List Nat
  left : List Int

def KS.has (s : KS) (i : Nat) : Prop := s.is[i]?.getD false = true
instance (s : KS) (i : Nat) : Decidable (s.has i) := by unfold KS.has; infer_instance

def learn1 (s : KS) (i : Nat) : KS := if s.has i then s else { s with is := s.is.set i true, wait := s.wait ++ [i] }
def learnL (s : KS) (l : List Nat) : KS := l.foldl learn1 s
def dec1 (s : KS) (x : Nat) : KS :=
  let v := s.left[x]?.getD 0 - 1
  if v = 0 then learn1 { s with left := s.left.set x v } x else { s with left := s.left.set x v }
def decL (s : KS) (l : List Nat) : KS := l.foldl dec1 s
def inside (T : List Tm) (i : Nat) : List Nat := if kd T i = 7 then (ar T i).drop 2 else (ar T i).drop 1
def keyed1 (T : List Tm) (s : KS) (x : Nat) : KS := if s.has x then learnL s (inside T x) else s
def keyedL (T : List Tm) (s : KS) (l : List Nat) : KS := l.foldl (keyed1 T) s
def opensK (T : List Tm) (s : KS) (i : Nat) : Prop := if kd T i = 6 then s.has (a0 T i) else s.has (a1 T i) ∨ kd T (a0 T i) = 5 ∧ s.has (a0 T (a0 T i))
instance (T : List Tm) (s : KS) (i : Nat) : Decidable (opensK T s i) := by unfold opensK; infer_instance
def selfK (T : List Tm) (s : KS) (i : Nat) : KS :=
  if kd T i = 9 then learnL s (ar T i) else if kd T i = 8 then learnL s ((ar T i).drop 1) else if kd T i = 6 ∨ kd T i = 7 then (if opensK T s i then learnL s (inside T i) else s) else s

/-- what is true of the state: w known, P worked off -/
structure KI (T : List Tm) (S : Nat → Prop) (s : KS) (P : List Nat) : Prop where
  lenI : s.is.length = T.length
  lenL : s.left.length = T.length
  sound : ∀ i, s.has i → Kn T S i
  both : ∀ i, s.has i ↔ i ∈ s.wait ∨ i ∈ P
  nodup : s.wait.Nodup
  apart : ∀ i ∈ s.wait, i ∉ P

theorem has_lt {s : KS} {n i : Nat} (hl : s.is.length = n) (h : s.has i) : i < n := by
  unfold KS.has at h
  rcases Nat.lt_or_ge i s.is.length with h1 | h1
  · omega
  · rw [List.getElem?_eq_none h1] at h; cases h

theorem has_set {s : KS} {i j : Nat} {w : List Nat} {l : List Int} (hi : i < s.is.length) : KS.has { is := s.is.set i true, wait := w, left := l } j ↔ s.has j ∨ j = i := by
  unfold KS.has
  simp only
  rw [List.getElem?_set]
  by_cases h : i = j
  · subst h; simp [hi]
  · rw [if_neg h]
    constructor
    · exact .inl
    · rintro (h1 | h1)
      · exact h1
      · exact absurd h1.symm h

theorem learn1_spec {T : List Tm} {S : Nat → Prop} {s : KS} {P : List Nat} (h : KI T S s P) {i : Nat} (hi : i < T.length) (hk : Kn T S i) :
    KI T S (learn1 s i) P ∧ (∀ j, (learn1 s i).has j ↔ s.has j ∨ j = i) ∧ (learn1 s i).left = s.left := by
  unfold learn1
  by_cases hh : s.has i
  · rw [if_pos hh]
    refine ⟨h, fun j => ⟨.inl, ?_⟩, rfl⟩
    rintro (h1 | rfl)
    · exact h1
    · exact hh
  · rw [if_neg hh]
    have hs : ∀ j, KS.has { is := s.is.set i true, wait := s.wait ++ [i], left := s.left } j ↔ s.has j ∨ j = i := fun j => has_set (by rw [h.lenI]; exact hi)
    have hn := fun hb => hh ((h.both i).2 hb)
    refine ⟨⟨by simp [h.lenI], h.lenL, fun j hj => ?_, fun j => ?_, ?_, fun j hj => ?_⟩, hs, rfl⟩
    · rcases (hs j).1 hj with h1 | rfl
      · exact h.sound j h1
      · exact hk
    · rw [hs j, h.both j]
      simp only [List.mem_append, List.mem_singleton]
      constructor
      · rintro ((h1 | h1) | h1)
        · exact .inl (.inl h1)
        · exact .inr h1
        · exact .inl (.inr h1)
      · rintro ((h1 | h1) | h1)
        · exact .inl (.inl h1)
        · exact .inr h1
        · exact .inl (.inr h1)
    · rw [List.nodup_append]
      refine ⟨h.nodup, by simp, fun a ha b hb => ?_⟩
      rw [List.mem_singleton] at hb
      subst hb
      rintro rfl
      exact hn (.inl ha)
    · simp only [List.mem_append, List.mem_singleton] at hj
      rcases hj with hj | rfl
      · exact h.apart j hj
      · exact fun hP => hn (.inr hP)

theorem learnL_spec {T : List Tm} {S : Nat → Prop} {P : List Nat} : ∀ (l : List Nat) {s : KS}, KI T S s P → (∀ i ∈ l, i < T.length ∧ Kn T S i) →
    KI T S (learnL s l) P ∧ (∀ j, (learnL s l).has j ↔ s.has j ∨ j ∈ l) ∧ (learnL s l).left = s.left
  | [], s, h, _ => ⟨h, fun j => by simp [learnL], rfl⟩
  | i :: l, s, h, hl => by
    obtain ⟨h1, h2, h3⟩ := learn1_spec h (hl i (by simp)).1 (hl i (by simp)).2
    obtain ⟨k1, k2, k3⟩ := learnL_spec l h1 fun j hj => hl j (by simp [hj])
    refine ⟨k1, fun j => ?_, k3.trans h3⟩
    show (learnL (learn1 s i) l).has j ↔ _
    rw [k2 j, h2 j, List.mem_cons, or_assoc]

/-- args that are not worked off -/
def lack (T : List Tm) (P : List Nat) (x : Nat) : Nat := ((ar T x).filter fun y => decide (y ∉ P)).length

theorem lack_cons (T : List Tm) (P : List Nat) {i : Nat} (hi : i ∉ P) (x : Nat) : lack T P x = lack T (i :: P) x + (ar T x).count i := by
  unfold lack
  induction ar T x with
  | nil => rfl
  | cons y r ih =>
    rw [List.count_cons, List.filter_cons, List.filter_cons]
    by_cases hy : y = i
    · subst hy
      simp [hi] at ih ⊢
      omega
    · by_cases hp : y ∈ P
      · simp [hy, hp] at ih ⊢; omega
      · simp [hy, hp] at ih ⊢; omega

theorem lack_zero {T : List Tm} {P : List Nat} {x : Nat} : lack T P x = 0 ↔ ∀ y ∈ ar T x, y ∈ P := by
  unfold lack
  rw [List.length_eq_zero_iff, List.filter_eq_nil_iff]
  simp

/-- what the law asks of the terms -/
structure KT (T : List Tm) : Prop where
  down : ∀ i, i < T.length → ∀ x ∈ ar T i, x < i
  atom : ∀ i, i < T.length → kd T i = 1 → ar T i = []
  pub : ∀ i j, i < T.length → j < T.length → kd T i = 5 → kd T j = 5 → a0 T i = a0 T j → i = j
  one : ∀ i, i < T.length → kd T i = 5 ∨ kd T i = 6 ∨ kd T i = 8 → 1 ≤ (ar T i).length
  two : ∀ i, i < T.length → kd T i = 7 → 2 ≤ (ar T i).length

theorem dec1_spec {T : List Tm} {S : Nat → Prop} (hT : KT T) {s : KS} {P : List Nat} (h : KI T S s P) {c : Nat → Nat} (hc : ∀ x, x < T.length → s.left[x]?.getD 0 = (lack T P x : Int) + c x) {x : Nat} (hx : x < T.length) (hcx : 0 < c x) (hin : ar T x ≠ []) :
    KI T S (dec1 s x) P ∧ (∀ y, y < T.length → (dec1 s x).left[y]?.getD 0 = (lack T P y : Int) + ((if y = x then c x - 1 else c y : Nat) : Int)) ∧ (∀ j, s.has j → (dec1 s x).has j) ∧ (lack T P x = 0 → c x = 1 → (dec1 s x).has x) := by
  have hl0 := hc x hx
  have hset : ∀ (y : Nat), y < T.length → (s.left.set x (s.left[x]?.getD 0 - 1))[y]?.getD 0 = (lack T P y : Int) + ((if y = x then c x - 1 else c y : Nat) : Int) := by
    intro y hy
    rw [List.getElem?_set]
    by_cases hxy : x = y
    · subst hxy
      rw [if_pos rfl, if_pos (by rw [h.lenL]; exact hx), Option.getD_some, hl0, if_pos rfl]
      omega
    · rw [if_neg hxy, if_neg (fun e => hxy e.symm)]; exact hc y hy
  have hK : KI T S { s with left := s.left.set x (s.left[x]?.getD 0 - 1) } P := ⟨h.lenI, by simp [h.lenL], h.sound, h.both, h.nodup, h.apart⟩
  unfold dec1
  by_cases hv : s.left[x]?.getD 0 - 1 = 0
  · simp only [if_pos hv]
    have hz : lack T P x = 0 := by omega
    have hk : Kn T S x := .made hx (fun he => hin (hT.atom x hx he)) fun y hy => h.sound y ((h.both y).2 (.inr (lack_zero.1 hz y hy)))
    obtain ⟨k1, k2, k3⟩ := learn1_spec hK hx hk
    refine ⟨k1, fun y hy => by rw [k3]; exact hset y hy, fun j hj => (k2 j).2 (.inl hj), fun _ _ => (k2 x).2 (.inr rfl)⟩
  · simp only [if_neg hv]
    exact ⟨hK, hset, fun j hj => hj, fun h1 h2 => absurd (by omega) hv⟩

theorem decL_spec {T : List Tm} {S : Nat → Prop} (hT : KT T) {P : List Nat} : ∀ (L : List Nat) {s : KS}, KI T S s P → (∀ x, x < T.length → s.left[x]?.getD 0 = (lack T P x : Int) + L.count x) → (∀ x ∈ L, x < T.length ∧ ar T x ≠ []) →
    KI T S (decL s L) P ∧ (∀ x, x < T.length → (decL s L).left[x]?.getD 0 = (lack T P x : Int)) ∧ (∀ j, s.has j → (decL s L).has j) ∧ (∀ x ∈ L, lack T P x = 0 → (decL s L).has x)
  | [], s, h, hc, _ => ⟨h, fun x hx => by have := hc x hx; simp at this; exact this, fun j hj => hj, fun x hx => (by cases hx)⟩
  | x :: L, s, h, hc, hl => by
    obtain ⟨h1, h2, h3, h4⟩ := dec1_spec hT h (c := fun y => (x :: L).count y) hc (hl x (by simp)).1 (by simp) (hl x (by simp)).2
    have hc' : ∀ y, y < T.length → (dec1 s x).left[y]?.getD 0 = (lack T P y : Int) + L.count y := by
      intro y hy
      rw [h2 y hy]
      by_cases hyx : y = x
      · subst hyx; rw [if_pos rfl]; simp
      · rw [if_neg hyx, List.count_cons_of_ne (fun e => hyx e.symm)]
    obtain ⟨k1, k2, k3, k4⟩ := decL_spec hT L h1 hc' fun y hy => hl y (by simp [hy])
    refine ⟨k1, k2, fun j hj => k3 j (h3 j hj), fun y hy hz => ?_⟩
    rcases List.mem_cons.1 hy with rfl | hy
    · by_cases hyL : y ∈ L
      · exact k4 y hyL hz
      · have h1 : (y :: L).count y = 1 := by rw [List.count_cons_self, List.count_eq_zero_of_not_mem hyL]
        exact k3 y (h4 hz h1)
    · exact k4 y hy hz

theorem keyedL_spec {T : List Tm} {S : Nat → Prop} {P : List Nat} : ∀ (L : List Nat) {s : KS}, KI T S s P → (∀ s', KI T S s' P → (∀ j, s.has j → s'.has j) → ∀ x ∈ L, s'.has x → ∀ y ∈ inside T x, y < T.length ∧ Kn T S y) →
    KI T S (keyedL T s L) P ∧ (∀ j, s.has j → (keyedL T s L).has j) ∧ (∀ x ∈ L, s.has x → ∀ y ∈ inside T x, (keyedL T s L).has y) ∧ (keyedL T s L).left = s.left
  | [], s, h, _ => ⟨h, fun j hj => hj, fun x hx => (by cases hx), rfl⟩
  | x :: L, s, h, hk => by
    have step : KI T S (keyed1 T s x) P ∧ (∀ j, s.has j → (keyed1 T s x).has j) ∧ (s.has x → ∀ y ∈ inside T x, (keyed1 T s x).has y) ∧ (keyed1 T s x).left = s.left := by
      unfold keyed1
      by_cases hx : s.has x
      · rw [if_pos hx]
        obtain ⟨k1, k2, k3⟩ := learnL_spec (inside T x) h (hk s h (fun j hj => hj) x (by simp) hx)
        exact ⟨k1, fun j hj => (k2 j).2 (.inl hj), fun _ y hy => (k2 y).2 (.inr hy), k3⟩
      · rw [if_neg hx]
        exact ⟨h, fun j hj => hj, fun hh => absurd hh hx, rfl⟩
    obtain ⟨k1, k2, k3, k4⟩ := step
    obtain ⟨m1, m2, m3, m4⟩ := keyedL_spec L k1 fun s' hs' hm z hz => hk s' hs' (fun j hj => hm j (k2 j hj)) z (by simp [hz])
    refine ⟨m1, fun j hj => m2 j (k2 j hj), fun z hz hh y hy => ?_, m4.trans k4⟩
    rcases List.mem_cons.1 hz with rfl | hz
    · exact m2 y (k3 hh y hy)
    · exact m3 z hz (k2 z hh) y hy

/-! the tables -/

def aboveT (T : List Tm) (y : Nat) : List Nat := (List.range T.length).flatMap fun i => ((ar T i).filter fun z => decide (z = y)).map fun _ => i
def sealsT (T : List Tm) (y : Nat) : List Nat := (List.range T.length).filter fun i => decide (kd T i = 7 ∧ a1 T i = y ∨ kd T i = 6 ∧ a0 T i = y)
def boxesT (T : List Tm) (y : Nat) : List Nat := (List.range T.length).filter fun i => decide (kd T i = 7 ∧ a0 T i = y)
def pubsT (T : List Tm) (y : Nat) : Option Nat := (List.range T.length).find? fun i => decide (kd T i = 5 ∧ a0 T i = y)

theorem above_count (T : List Tm) (y x : Nat) (hx : x < T.length) : (aboveT T y).count x = (ar T x).count y := by
  unfold aboveT
  have key : ∀ n, ((List.range n).flatMap fun i => ((ar T i).filter fun z => decide (z = y)).map fun _ => i).count x = if x < n then (ar T x).count y else 0 := by
    intro n
    induction n with
    | zero => simp
    | succ n ih =>
      rw [List.range_succ, List.flatMap_append, List.count_append, ih]
      simp only [List.flatMap_cons, List.flatMap_nil, List.append_nil]
      have e : (((ar T n).filter fun z => decide (z = y)).map fun _ => n) = List.replicate ((ar T n).count y) n := by
        rw [List.map_const', List.count_eq_length_filter]
        congr 2
      rw [e, List.count_replicate]
      by_cases h : x = n
      · subst h; simp
      · have h2 : ¬ (n == x) = true := by simpa using fun e => h e.symm
        rw [if_neg h2]
        by_cases h3 : x < n
        · rw [if_pos h3, if_pos (by omega)]; rfl
        · rw [if_neg h3, if_neg (by omega)]
  rw [key, if_pos hx]
theorem above_mem {T : List Tm} {y x : Nat} : x ∈ aboveT T y ↔ x < T.length ∧ y ∈ ar T x := by
  unfold aboveT
  simp only [List.mem_flatMap, List.mem_range, List.mem_map, List.mem_filter, decide_eq_true_eq]
  constructor
  · rintro ⟨i, hi, z, ⟨hz, rfl⟩, rfl⟩; exact ⟨hi, hz⟩
  · rintro ⟨h1, h2⟩; exact ⟨x, h1, y, ⟨h2, rfl⟩, rfl⟩
theorem pubs_some {T : List Tm} {y p : Nat} (h : pubsT T y = some p) : p < T.length ∧ kd T p = 5 ∧ a0 T p = y := by
  unfold pubsT at h
  have h1 := List.find?_some h
  have h2 := List.mem_of_find?_eq_some h
  rw [List.mem_range] at h2
  simp at h1
  exact ⟨h2, h1.1, h1.2⟩
theorem pubs_at {T : List Tm} (hT : KT T) {p : Nat} (hp : p < T.length) (h5 : kd T p = 5) : pubsT T (a0 T p) = some p := by
  cases h : pubsT T (a0 T p) with
  | none =>
    unfold pubsT at h
    rw [List.find?_eq_none] at h
    have := h p (List.mem_range.2 hp)
    simp [h5] at this
  | some q =>
    obtain ⟨h1, h2, h3⟩ := pubs_some h
    rw [hT.pub q p h1 hp h2 h5 h3]

def keysT (T : List Tm) (i : Nat) : List Nat := sealsT T i ++ (match pubsT T i with | some p => boxesT T p | none => [])
def popK (T : List Tm) (s : KS) (i : Nat) : KS := selfK T (keyedL T (decL { s with wait := s.wait.dropLast } (aboveT T i)) (keysT T i)) i

/-- what follows of what is worked off is known -/
structure KC (T : List Tm) (S : Nat → Prop) (s : KS) (P : List Nat) : Prop where
  start : ∀ i, S i → s.has i
  none : ∀ x, x < T.length → kd T x ≠ 1 → ar T x = [] → s.has x
  left : ∀ x, x < T.length → s.left[x]?.getD 0 = (lack T P x : Int)
  made : ∀ x, x < T.length → ar T x ≠ [] → lack T P x = 0 → s.has x
  list : ∀ i ∈ P, kd T i = 9 → ∀ x ∈ ar T i, s.has x
  sig : ∀ i ∈ P, kd T i = 8 → ∀ x ∈ (ar T i).drop 1, s.has x
  lock : ∀ i ∈ P, kd T i = 6 → a0 T i ∈ P → ∀ x ∈ (ar T i).drop 1, s.has x
  box1 : ∀ i ∈ P, kd T i = 7 → a1 T i ∈ P → ∀ x ∈ (ar T i).drop 2, s.has x
  box2 : ∀ i ∈ P, kd T i = 7 → kd T (a0 T i) = 5 → a0 T (a0 T i) ∈ P → ∀ x ∈ (ar T i).drop 2, s.has x

theorem a0_in {T : List Tm} {i : Nat} (h : 1 ≤ (ar T i).length) : a0 T i ∈ ar T i := by
  unfold a0; rw [List.getElem?_eq_getElem (by omega)]; exact List.getElem_mem _
theorem a1_in {T : List Tm} {i : Nat} (h : 2 ≤ (ar T i).length) : a1 T i ∈ ar T i := by
  unfold a1; rw [List.getElem?_eq_getElem (by omega)]; exact List.getElem_mem _

theorem pop_spec {T : List Tm} {S : Nat → Prop} (hT : KT T) {s : KS} {P : List Nat} (h : KI T S s P) (hc : KC T S s P) {w : List Nat} {i : Nat} (hw : s.wait = w ++ [i]) :
    KI T S (popK T s i) (i :: P) ∧ KC T S (popK T s i) (i :: P) ∧ i ∉ P ∧ i < T.length := by
  have hi : i ∈ s.wait := by rw [hw]; simp
  have hhas : s.has i := (h.both i).2 (.inl hi)
  have hiP : i ∉ P := h.apart i hi
  have hin : i < T.length := has_lt h.lenI hhas
  have hnd := h.nodup
  rw [hw, List.nodup_append] at hnd
  have h1 : KI T S { s with wait := s.wait.dropLast } (i :: P) := by
    rw [hw, List.dropLast_concat]
    refine ⟨h.lenI, h.lenL, h.sound, fun j => ?_, hnd.1, fun j hj => ?_⟩
    · show s.has j ↔ _
      rw [h.both j, hw]
      simp only [List.mem_append, List.mem_cons, List.not_mem_nil, or_false]
      constructor
      · rintro ((h1 | h1) | h1)
        · exact .inl h1
        · exact .inr (.inl h1)
        · exact .inr (.inr h1)
      · rintro (h1 | h1 | h1)
        · exact .inl (.inl h1)
        · exact .inl (.inr h1)
        · exact .inr h1
    · simp only at hj
      rw [List.mem_cons]
      rintro (rfl | hP)
      · exact hnd.2.2 j hj j (by simp) rfl
      · exact h.apart j (by rw [hw]; simp [hj]) hP
  obtain ⟨k1, k2, k3, k4⟩ := decL_spec hT (aboveT T i) h1 (fun x hx => by
    rw [above_count T i x hx]
    have := hc.left x hx
    rw [lack_cons T P hiP x] at this
    show s.left[x]?.getD 0 = _
    rw [this]; omega) (fun x hx => by
      have := above_mem.1 hx
      exact ⟨this.1, fun e => by rw [e] at this; cases this.2⟩)
  obtain ⟨s2, hs2⟩ : ∃ s2, s2 = decL { s with wait := s.wait.dropLast } (aboveT T i) := ⟨_, rfl⟩
  rw [← hs2] at k1 k2 k3 k4
  have up2 : ∀ j, s.has j → s2.has j := fun j hj => k3 j hj
  have inT : ∀ x, x < T.length → ∀ y ∈ inside T x, y < T.length := by
    intro x hx y hy
    have : y ∈ ar T x := by
      unfold inside at hy
      split at hy <;> exact List.mem_of_mem_drop hy
    have := hT.down x hx y this
    omega
  obtain ⟨m1, m2, m3, m4⟩ := keyedL_spec (keysT T i) k1 (fun s' hs' hm x hx hhx y hy => by
    have hxn := has_lt hs'.lenI hhx
    have hi' : s'.has i := hm i (up2 i hhas)
    refine ⟨inT x hxn y hy, ?_⟩
    unfold keysT at hx
    rw [List.mem_append] at hx
    rcases hx with hx | hx
    · unfold sealsT at hx
      rw [List.mem_filter] at hx
      have := of_decide_eq_true hx.2
      unfold inside at hy
      rcases this with ⟨h7, h1⟩ | ⟨h6, h0⟩
      · rw [if_pos h7] at hy
        exact .box1 (hs'.sound x hhx) h7 (by rw [h1]; exact hs'.sound i hi') hy
      · rw [if_neg (by rw [h6]; decide)] at hy
        exact .lock (hs'.sound x hhx) h6 (by rw [h0]; exact hs'.sound i hi') hy
    · cases hp : pubsT T i with
      | none => rw [hp] at hx; cases hx
      | some p =>
        rw [hp] at hx
        obtain ⟨p1, p2, p3⟩ := pubs_some hp
        unfold boxesT at hx
        rw [List.mem_filter] at hx
        obtain ⟨h7, h0⟩ := of_decide_eq_true hx.2
        unfold inside at hy
        rw [if_pos h7] at hy
        exact .box2 (hs'.sound x hhx) h7 (by rw [h0]; exact p2) (by rw [h0, p3]; exact hs'.sound i hi') hy)
  obtain ⟨s3, hs3⟩ : ∃ s3, s3 = keyedL T s2 (keysT T i) := ⟨_, rfl⟩
  rw [← hs3] at m1 m2 m3 m4
  have up3 : ∀ j, s.has j → s3.has j := fun j hj => m2 j (up2 j hj)
  have hi3 := up3 i hhas
  have har : ∀ y ∈ ar T i, y < T.length := fun y hy => by have := hT.down i hin y hy; omega
  have self : KI T S (selfK T s3 i) (i :: P) ∧ (∀ j, s3.has j → (selfK T s3 i).has j) ∧ (selfK T s3 i).left = s3.left ∧ (kd T i = 9 → ∀ x ∈ ar T i, (selfK T s3 i).has x) ∧ (kd T i = 8 → ∀ x ∈ (ar T i).drop 1, (selfK T s3 i).has x) ∧
      ((kd T i = 6 ∨ kd T i = 7) → opensK T s3 i → ∀ x ∈ inside T i, (selfK T s3 i).has x) := by
    unfold selfK
    by_cases h9 : kd T i = 9
    · rw [if_pos h9]
      obtain ⟨q1, q2, q3⟩ := learnL_spec (ar T i) m1 fun y hy => ⟨har y hy, .list (m1.sound i hi3) h9 hy⟩
      exact ⟨q1, fun j hj => (q2 j).2 (.inl hj), q3, fun _ x hx => (q2 x).2 (.inr hx), fun h8 => (by rw [h9] at h8; cases h8), fun h67 => (by rw [h9] at h67; rcases h67 with h67 | h67 <;> cases h67)⟩
    · rw [if_neg h9]
      by_cases h8 : kd T i = 8
      · rw [if_pos h8]
        obtain ⟨q1, q2, q3⟩ := learnL_spec ((ar T i).drop 1) m1 fun y hy => ⟨har y (List.mem_of_mem_drop hy), .sig (m1.sound i hi3) h8 hy⟩
        exact ⟨q1, fun j hj => (q2 j).2 (.inl hj), q3, fun h => absurd h h9, fun _ x hx => (q2 x).2 (.inr hx), fun h67 => (by rw [h8] at h67; rcases h67 with h67 | h67 <;> cases h67)⟩
      · rw [if_neg h8]
        by_cases h67 : kd T i = 6 ∨ kd T i = 7
        · rw [if_pos h67]
          by_cases ho : opensK T s3 i
          · rw [if_pos ho]
            obtain ⟨q1, q2, q3⟩ := learnL_spec (inside T i) m1 fun y hy => ⟨inT i hin y hy, by
              unfold opensK at ho
              unfold inside at hy
              rcases h67 with h6 | h7
              · rw [if_pos h6] at ho
                rw [if_neg (by rw [h6]; decide)] at hy
                exact .lock (m1.sound i hi3) h6 (m1.sound _ ho) hy
              · rw [if_neg (by rw [h7]; decide)] at ho
                rw [if_pos h7] at hy
                rcases ho with ho | ⟨h5, ho⟩
                · exact .box1 (m1.sound i hi3) h7 (m1.sound _ ho) hy
                · exact .box2 (m1.sound i hi3) h7 h5 (m1.sound _ ho) hy⟩
            exact ⟨q1, fun j hj => (q2 j).2 (.inl hj), q3, fun h => absurd h h9, fun h => absurd h h8, fun _ _ x hx => (q2 x).2 (.inr hx)⟩
          · rw [if_neg ho]
            exact ⟨m1, fun j hj => hj, rfl, fun h => absurd h h9, fun h => absurd h h8, fun _ h => absurd h ho⟩
        · rw [if_neg h67]
          exact ⟨m1, fun j hj => hj, rfl, fun h => absurd h h9, fun h => absurd h h8, fun h => absurd h h67⟩
  obtain ⟨q1, q2, q3, q4, q5, q6⟩ := self
  have hpop : popK T s i = selfK T s3 i := by unfold popK; rw [hs3, hs2]
  rw [hpop]
  have up : ∀ j, s.has j → (selfK T s3 i).has j := fun j hj => q2 j (up3 j hj)
  have inP : ∀ j, j ∈ i :: P → s.has j := by
    intro j hj
    rcases List.mem_cons.1 hj with rfl | hj
    · exact hhas
    · exact (h.both j).2 (.inr hj)
  have drop67 : ∀ {x : Nat}, kd T x = 6 → inside T x = (ar T x).drop 1 := fun {x} h6 => by unfold inside; rw [if_neg (by rw [h6]; decide)]
  have drop7 : ∀ {x : Nat}, kd T x = 7 → inside T x = (ar T x).drop 2 := fun {x} h7 => by unfold inside; rw [if_pos h7]
  refine ⟨q1, ⟨fun j hj => up j (hc.start j hj), fun x hx h1 h2 => up x (hc.none x hx h1 h2), fun x hx => by rw [q3, m4]; exact k2 x hx, fun x hx hne hz => ?_, fun j hj h9 x hx => ?_, fun j hj h8 x hx => ?_, fun j hj h6 hk x hx => ?_, fun j hj h7 hk x hx => ?_, fun j hj h7 h5 hk x hx => ?_⟩, hiP, hin⟩
  · by_cases hix : i ∈ ar T x
    · exact q2 x (m2 x (k4 x (above_mem.2 ⟨hx, hix⟩) hz))
    · refine up x (hc.made x hx hne ?_)
      rw [lack_cons T P hiP x, hz, List.count_eq_zero_of_not_mem hix]
  · rcases List.mem_cons.1 hj with rfl | hj
    · exact q4 h9 x hx
    · exact up x (hc.list j hj h9 x hx)
  · rcases List.mem_cons.1 hj with rfl | hj
    · exact q5 h8 x hx
    · exact up x (hc.sig j hj h8 x hx)
  · rcases List.mem_cons.1 hj with rfl | hj
    · refine q6 (.inl h6) ?_ x (by rw [drop67 h6]; exact hx)
      unfold opensK
      rw [if_pos h6]
      exact up3 _ (inP _ hk)
    · rcases List.mem_cons.1 hk with hk | hk
      · have hjs := inP j (List.mem_cons_of_mem _ hj)
        refine q2 x (m3 j ?_ (up2 j hjs) x (by rw [drop67 h6]; exact hx))
        unfold keysT sealsT
        rw [List.mem_append, List.mem_filter, List.mem_range]
        exact .inl ⟨has_lt h.lenI hjs, decide_eq_true (.inr ⟨h6, hk⟩)⟩
      · exact up x (hc.lock j hj h6 hk x hx)
  · rcases List.mem_cons.1 hj with rfl | hj
    · refine q6 (.inr h7) ?_ x (by rw [drop7 h7]; exact hx)
      unfold opensK
      rw [if_neg (by rw [h7]; decide)]
      exact .inl (up3 _ (inP _ hk))
    · rcases List.mem_cons.1 hk with hk | hk
      · have hjs := inP j (List.mem_cons_of_mem _ hj)
        refine q2 x (m3 j ?_ (up2 j hjs) x (by rw [drop7 h7]; exact hx))
        unfold keysT sealsT
        rw [List.mem_append, List.mem_filter, List.mem_range]
        exact .inl ⟨has_lt h.lenI hjs, decide_eq_true (.inl ⟨h7, hk⟩)⟩
      · exact up x (hc.box1 j hj h7 hk x hx)
  · rcases List.mem_cons.1 hj with rfl | hj
    · refine q6 (.inr h7) ?_ x (by rw [drop7 h7]; exact hx)
      unfold opensK
      rw [if_neg (by rw [h7]; decide)]
      exact .inr ⟨h5, up3 _ (inP _ hk)⟩
    · rcases List.mem_cons.1 hk with hk | hk
      · have hjs := inP j (List.mem_cons_of_mem _ hj)
        have hjn := has_lt h.lenI hjs
        have hp : a0 T j < T.length := by
          have := hT.down j hjn _ (a0_in (by have := hT.two j hjn h7; omega))
          omega
        refine q2 x (m3 j ?_ (up2 j hjs) x (by rw [drop7 h7]; exact hx))
        unfold keysT
        rw [List.mem_append]
        right
        have := pubs_at hT hp h5
        rw [hk] at this
        rw [this]
        unfold boxesT
        rw [List.mem_filter, List.mem_range]
        exact ⟨hjn, decide_eq_true ⟨h7, rfl⟩⟩
      · exact up x (hc.box2 j hj h7 h5 hk x hx)

theorem know_done {T : List Tm} {S : Nat → Prop} {s : KS} {P : List Nat} (h : KI T S s P) (hc : KC T S s P) (hw : s.wait = []) (i : Nat) : s.has i ↔ Kn T S i := by
  have hP : ∀ j, s.has j ↔ j ∈ P := fun j => by rw [h.both j, hw]; simp
  refine ⟨h.sound i, fun hk => ?_⟩
  induction hk with
  | start hs => exact hc.start _ hs
  | made hi hk _ ih =>
    rename_i x _
    by_cases he : ar T x = []
    · exact hc.none x hi hk he
    · exact hc.made x hi he (lack_zero.2 fun y hy => (hP y).1 (ih y hy))
  | list _ hk hx ih => exact hc.list _ ((hP _).1 ih) hk _ hx
  | sig _ hk hx ih => exact hc.sig _ ((hP _).1 ih) hk _ hx
  | lock _ hk _ hx ih ih0 => exact hc.lock _ ((hP _).1 ih) hk ((hP _).1 ih0) _ hx
  | box1 _ hk _ hx ih ih1 => exact hc.box1 _ ((hP _).1 ih) hk ((hP _).1 ih1) _ hx
  | box2 _ hk hp _ hx ih ih0 => exact hc.box2 _ ((hP _).1 ih) hk hp ((hP _).1 ih0) _ hx

theorem errZ {T : List Tm} {t : Tm} (h : errOf T t = 0) : 1 ≤ t.kind ∧ t.kind ≤ 9 ∧ least t.kind ≤ t.args.length ∧ t.args.length ≤ mostOf t.kind ∧ (∀ x ∈ t.args, inT T x) ∧ 0 ≤ t.n ∧ (0 < t.n → numbered t.kind) := by
  unfold errOf at h
  split at h
  · exact absurd h (by decide)
  split at h
  · exact absurd h (by decide)
  split at h
  · exact absurd h (by decide)
  split at h
  · exact absurd h (by decide)
  rename_i h1 h2 h3 h4
  refine ⟨by omega, by omega, by omega, by omega, Decidable.not_not.1 h4, by omega, fun hp => ?_⟩
  exact Decidable.not_not.1 fun hn => h2 (.inr ⟨hp, hn⟩)

theorem okAt {T : List Tm} (h : TOk T) {i : Nat} (hi : i < T.length) : T[i]? = some (tmAt T (i : Int)) ∧ 1 ≤ kd T i ∧ kd T i ≤ 9 ∧ least (kd T i) ≤ (tmAt T (i : Int)).args.length ∧ (tmAt T (i : Int)).args.length ≤ mostOf (kd T i) ∧ (∀ x ∈ (tmAt T (i : Int)).args, 0 ≤ x ∧ x < i) ∧ 0 ≤ (tmAt T (i : Int)).n ∧ (0 < (tmAt T (i : Int)).n → numbered (kd T i)) := by
  have he : T[i]? = some (tmAt T (i : Int)) := by unfold tmAt; rw [Int.toNat_natCast, List.getElem?_eq_getElem hi]; rfl
  obtain ⟨h1, h2, h3, h4, h5, h6, h7⟩ := errZ (h.good _ _ he)
  refine ⟨he, h1, h2, h3, h4, fun x hx => ?_, h6, h7⟩
  have := h5 x hx
  unfold inT at this
  rw [List.length_take] at this
  omega

theorem ar_len (T : List Tm) (i : Nat) : (ar T i).length = (tmAt T (i : Int)).args.length := by simp [ar]

theorem TOk.kt {T : List Tm} (h : TOk T) : KT T := by
  refine ⟨fun i hi x hx => ?_, fun i hi hk => ?_, fun i j hi hj h5 h5' he => ?_, fun i hi hk => ?_, fun i hi hk => ?_⟩
  · obtain ⟨_, _, _, _, _, h5, _⟩ := okAt h hi
    obtain ⟨y, hy, rfl⟩ := List.mem_map.1 hx
    have := h5 y hy
    omega
  · obtain ⟨_, _, _, _, h4, _⟩ := okAt h hi
    rw [hk] at h4
    have : (ar T i).length = 0 := by rw [ar_len]; have : mostOf 1 = 0 := rfl; omega
    exact List.length_eq_zero_iff.1 this
  · obtain ⟨e1, _, _, l1, m1, d1, n1, q1⟩ := okAt h hi
    obtain ⟨e2, _, _, l2, m2, d2, n2, q2⟩ := okAt h hj
    rw [h5] at l1 m1 q1
    rw [h5'] at l2 m2 q2
    have lm : least 5 = 1 ∧ mostOf 5 = 1 := ⟨rfl, rfl⟩
    have hn : ∀ n : Int, 0 ≤ n → (0 < n → numbered 5) → n = 0 := fun n h0 hq => by
      rcases Int.lt_or_le 0 n with hp | hp
      · have := hq hp; unfold numbered at this; omega
      · omega
    have hz1 := hn _ n1 q1
    have hz2 := hn _ n2 q2
    have : tmAt T (i : Int) = tmAt T (j : Int) := by
      have k1 : (tmAt T (i : Int)).kind = 5 := h5
      have k2 : (tmAt T (j : Int)).kind = 5 := h5'
      have ha : (tmAt T (i : Int)).args = (tmAt T (j : Int)).args := by
        unfold a0 ar at he
        generalize (tmAt T (i : Int)).args = xs at *
        generalize (tmAt T (j : Int)).args = ys at *
        match xs, ys, l1, m1, l2, m2, d1, d2, he with
        | [x], [y], _, _, _, _, d1, d2, he =>
          have := d1 x (by simp)
          have := d2 y (by simp)
          simp at he
          rw [show x = y by omega]
      generalize tmAt T (i : Int) = t at *
      generalize tmAt T (j : Int) = u at *
      cases t; cases u
      simp only at k1 k2 hz1 hz2 ha
      subst k1 k2 hz1 hz2 ha
      rfl
    rw [this] at e1
    exact h.once i j _ e1 e2
  · obtain ⟨_, _, _, l1, _⟩ := okAt h hi
    rw [ar_len]
    rcases hk with hk | hk | hk <;> rw [hk] at l1 <;> exact l1
  · obtain ⟨_, _, _, l1, _⟩ := okAt h hi
    rw [ar_len]
    rw [hk] at l1
    exact l1

end Go.Lf

/-
  What is known: what is kept away; where all atoms are known, or nothing is.
-/
namespace Go.Lf
open Go Go.RowKit Go.ChangeShapes
set_option linter.unusedVariables false

/-- what is kept away is not known -/
theorem Kn.avoid {T : List Tm} {S : Nat → Prop} (Bad : Nat → Prop) (h0 : ∀ i, S i → ¬ Bad i) (h1 : ∀ i, i < T.length → Bad i → kd T i = 1 ∨ ∃ x ∈ ar T i, Bad x)
    (h9 : ∀ i, ¬ Bad i → kd T i = 9 → ∀ x ∈ ar T i, ¬ Bad x) (h8 : ∀ i, ¬ Bad i → kd T i = 8 → ∀ x ∈ (ar T i).drop 1, ¬ Bad x)
    (h6 : ∀ i, ¬ Bad i → kd T i = 6 → ¬ Bad (a0 T i) → ∀ x ∈ (ar T i).drop 1, ¬ Bad x)
    (h7 : ∀ i, ¬ Bad i → kd T i = 7 → ¬ Bad (a1 T i) ∨ (kd T (a0 T i) = 5 ∧ ¬ Bad (a0 T (a0 T i))) → ∀ x ∈ (ar T i).drop 2, ¬ Bad x) :
    ∀ i, Kn T S i → ¬ Bad i := by
  intro i h
  induction h with
  | start h => exact h0 _ h
  | made hi hk _ ih =>
    intro hb
    rcases h1 _ hi hb with h | ⟨x, hx, hbx⟩
    · exact hk h
    · exact ih x hx hbx
  | list _ hk hx ih => exact h9 _ ih hk _ hx
  | sig _ hk hx ih => exact h8 _ ih hk _ hx
  | lock _ hk _ hx ih ih0 => exact h6 _ ih hk ih0 _ hx
  | box1 _ hk _ hx ih ih1 => exact h7 _ ih hk (.inl ih1) _ hx
  | box2 _ hk hp _ hx ih ih0 => exact h7 _ ih hk (.inr ⟨hp, ih0⟩) _ hx

theorem Kn.more {T : List Tm} {S S' : Nat → Prop} (h : ∀ i, S i → S' i) {i : Nat} (hk : Kn T S i) : Kn T S' i := by
  induction hk with
  | start hs => exact .start (h _ hs)
  | made hi hk _ ih => exact .made hi hk ih
  | list _ hk hx ih => exact .list ih hk hx
  | sig _ hk hx ih => exact .sig ih hk hx
  | lock _ hk _ hx ih ih0 => exact .lock ih hk ih0 hx
  | box1 _ hk _ hx ih ih1 => exact .box1 ih hk ih1 hx
  | box2 _ hk hp _ hx ih ih0 => exact .box2 ih hk hp ih0 hx

theorem Kn.lt {T : List Tm} (hT : KT T) {S : Nat → Prop} (hS : ∀ i, S i → i < T.length) {i : Nat} (hk : Kn T S i) : i < T.length := by
  have dr : ∀ {i x m : Nat}, i < T.length → x ∈ (ar T i).drop m → x < T.length := fun hi hx => by
    have := hT.down _ hi _ (List.mem_of_mem_drop hx); omega
  induction hk with
  | start hs => exact hS _ hs
  | made hi _ _ _ => exact hi
  | list _ hk hx ih => have := hT.down _ ih _ hx; omega
  | sig _ hk hx ih => exact dr ih hx
  | lock _ hk _ hx ih ih0 => exact dr ih hx
  | box1 _ hk _ hx ih ih1 => exact dr ih hx
  | box2 _ hk hp _ hx ih ih0 => exact dr ih hx

/-! of all atoms everything; of nothing what is made of words alone -/

theorem kn_atoms {T : List Tm} (hT : KT T) {S : Nat → Prop} (hS : ∀ i, i < T.length → kd T i = 1 → S i) : ∀ i, i < T.length → Kn T S i := by
  intro i
  induction i using Nat.strongRecOn with
  | _ i ih =>
    intro hi
    by_cases hk : kd T i = 1
    · exact .start (hS i hi hk)
    · exact .made hi hk fun x hx => by
        have := hT.down i hi x hx
        exact ih x this (by omega)

inductive Md (T : List Tm) : Nat → Prop
  | mk {i : Nat} (hi : i < T.length) (hk : kd T i ≠ 1) (h : ∀ x, x ∈ ar T i → Md T x) : Md T i

theorem kn_md {T : List Tm} {i : Nat} : Kn T (fun _ => False) i ↔ Md T i := by
  constructor
  · intro h
    have inv : ∀ {i x : Nat}, Md T i → x ∈ ar T i → Md T x := fun h hx => by cases h with | mk _ _ h => exact h _ hx
    induction h with
    | start h => exact h.elim
    | made hi hk _ ih => exact .mk hi hk ih
    | list _ hk hx ih => exact inv ih hx
    | sig _ hk hx ih => exact inv ih (List.mem_of_mem_drop hx)
    | lock _ hk _ hx ih _ => exact inv ih (List.mem_of_mem_drop hx)
    | box1 _ hk _ hx ih _ => exact inv ih (List.mem_of_mem_drop hx)
    | box2 _ hk hp _ hx ih _ => exact inv ih (List.mem_of_mem_drop hx)
  · intro h
    induction h with
    | mk hi hk _ ih => exact .made hi hk ih

theorem md_step {T : List Tm} {i : Nat} (hi : i < T.length) : Md T i ↔ kd T i ≠ 1 ∧ ∀ x ∈ ar T i, Md T x :=
  ⟨fun h => by cases h with | mk _ hk h => exact ⟨hk, h⟩, fun h => .mk hi h.1 h.2⟩

/-! a secret -/

structure SecT (n : Int) (ins : List Nat) (T : List Tm) : Prop where
  head : T[0]? = some ⟨1, n, []⟩
  kinds : ∀ i t, T[i]? = some t → i ≠ 0 → t.kind = 2 ∨ (t.kind = 3 ∨ t.kind = 4 ∧ t.n < 30 ∨ t.kind = 5 ∨ ((t.kind = 6 ∨ t.kind = 8) ∧ t.args = (0 :: ins).map fun k => ((k : Nat) : Int)))
  insk : ∀ x ∈ ins, ∃ t, T[x]? = some t ∧ t.kind = 2

theorem kd_of {T : List Tm} {i : Nat} {t : Tm} (h : T[i]? = some t) : kd T i = t.kind := by
  unfold kd tmAt; rw [Int.toNat_natCast, h]; rfl
theorem ar_of {T : List Tm} {i : Nat} {t : Tm} (h : T[i]? = some t) : ar T i = t.args.map Int.toNat := by
  unfold ar tmAt; rw [Int.toNat_natCast, h]; rfl
theorem kd_out {T : List Tm} {i : Nat} (h : T.length ≤ i) : kd T i = 0 := by
  unfold kd tmAt; rw [Int.toNat_natCast, List.getElem?_eq_none h]; rfl

theorem secret_safe {n : Int} {ins : List Nat} {T : List Tm} (h : SecT n ins T) {S : Nat → Prop} (hS : ∀ i, S i → ∃ t, T[i]? = some t ∧ t.kind ≠ 1) :
    ∀ i, Kn (T ++ [⟨4, 1048576, [0]⟩]) S i → ¬ (i = 0 ∨ i = T.length) := by
  have hlen : 0 < T.length := (List.getElem?_eq_some_iff.1 h.head).1
  have at1 : ∀ {i : Nat} {t : Tm}, T[i]? = some t → (T ++ [⟨4, 1048576, [0]⟩])[i]? = some t := fun hi => by
    rw [List.getElem?_append_left (List.getElem?_eq_some_iff.1 hi).1]; exact hi
  have atd : (T ++ [(⟨4, 1048576, [0]⟩ : Tm)])[T.length]? = some ⟨4, 1048576, [0]⟩ := by simp
  have look : ∀ i, kd (T ++ [⟨4, 1048576, [0]⟩]) i ≠ 0 → (i = T.length) ∨ ∃ t, T[i]? = some t ∧ (T ++ [⟨4, 1048576, [0]⟩])[i]? = some t := by
    intro i hi
    rcases Nat.lt_trichotomy i T.length with h1 | h1 | h1
    · exact .inr ⟨_, List.getElem?_eq_getElem h1, at1 (List.getElem?_eq_getElem h1)⟩
    · exact .inl h1
    · exact absurd (kd_out (by simp; omega)) hi
  have ins_ok : ∀ x ∈ ins, ¬ (x = 0 ∨ x = T.length) := by
    intro x hx hb
    obtain ⟨t, ht, hk⟩ := h.insk x hx
    rcases hb with rfl | rfl
    · rw [h.head] at ht; obtain rfl := Option.some.inj ht; exact absurd hk (by simp)
    · have := (List.getElem?_eq_some_iff.1 ht).1; omega
  have drop1 : ∀ i, ¬ (i = 0 ∨ i = T.length) → kd (T ++ [⟨4, 1048576, [0]⟩]) i = 6 ∨ kd (T ++ [⟨4, 1048576, [0]⟩]) i = 8 → ∀ x ∈ (ar (T ++ [⟨4, 1048576, [0]⟩]) i).drop 1, ¬ (x = 0 ∨ x = T.length) := by
    intro i hb hk x hx
    rcases look i (by rcases hk with hk | hk <;> rw [hk] <;> decide) with rfl | ⟨t, ht, ht'⟩
    · exact absurd (.inr rfl) hb
    rw [kd_of ht'] at hk
    rw [ar_of ht'] at hx
    rcases h.kinds i t ht (fun e => hb (.inl e)) with h2 | h2 | ⟨h2, _⟩ | h2 | ⟨_, h3⟩
    · omega
    · omega
    · omega
    · omega
    · rw [h3, List.map_map] at hx
      refine ins_ok x ?_
      have e : List.map (Int.toNat ∘ fun (k : Nat) => ((k : Nat) : Int)) (0 :: ins) = 0 :: ins := by
        rw [show (Int.toNat ∘ fun (k : Nat) => ((k : Nat) : Int)) = id from funext fun k => by simp]
        simp
      rw [e] at hx
      exact hx
  have none79 : ∀ i, ¬ (i = 0 ∨ i = T.length) → kd (T ++ [⟨4, 1048576, [0]⟩]) i ≠ 7 ∧ kd (T ++ [⟨4, 1048576, [0]⟩]) i ≠ 9 := by
    intro i hb
    by_cases h0 : kd (T ++ [⟨4, 1048576, [0]⟩]) i = 0
    · rw [h0]; decide
    rcases look i h0 with rfl | ⟨t, ht, ht'⟩
    · exact absurd (.inr rfl) hb
    rw [kd_of ht']
    rcases h.kinds i t ht (fun e => hb (.inl e)) with h2 | h2 | ⟨h2, _⟩ | h2 | ⟨h2, h3⟩ <;> omega
  refine Kn.avoid _ (fun i hi => ?_) (fun i hi hb => ?_) (fun i hb hk => absurd hk (none79 i hb).2) (fun i hb hk => drop1 i hb (.inr hk)) (fun i hb hk _ => drop1 i hb (.inl hk)) (fun i hb hk => absurd hk (none79 i hb).1)
  · obtain ⟨t, ht, hk⟩ := hS i hi
    rintro (rfl | rfl)
    · rw [h.head] at ht; obtain rfl := Option.some.inj ht; exact hk rfl
    · have := (List.getElem?_eq_some_iff.1 ht).1; omega
  · rcases hb with rfl | rfl
    · left; rw [kd_of (at1 h.head)]
    · right; refine ⟨0, ?_, .inl rfl⟩; rw [ar_of atd]; simp

end Go.Lf

/-
  Terms that are new to an arena; seals, boxes, signatures, lists, one in the other.
-/
namespace Go.Lf
open Go Go.RowKit Go.ChangeShapes
set_option linter.unusedVariables false

theorem errOk {T : List Tm} {t : Tm} (h1 : 1 ≤ t.kind ∧ t.kind ≤ 9) (h2 : 0 ≤ t.n) (h3 : numbered t.kind ∨ t.n = 0) (h4 : least t.kind ≤ t.args.length) (h5 : t.args.length ≤ mostOf t.kind) (h6 : ∀ x ∈ t.args, inT T x) : errOf T t = 0 := by
  unfold errOf
  rw [if_neg (by omega), if_neg, if_neg (by omega), if_neg (fun h => h h6)]
  rintro (h | ⟨h, hn⟩)
  · omega
  · rcases h3 with h3 | h3
    · exact hn h3
    · omega

theorem put_fresh {T : List Tm} {t : Tm} (h : errOf T t = 0) (hn : ∀ u ∈ T, u ≠ t) (hl : T.length < 1048576) : put T t = (T ++ [t], (T.length : Int), 0) := by
  have hp : place T t = none := by
    unfold place
    rw [List.findIdx?_eq_none_iff]
    intro u hu
    simpa using hn u hu
  unfold put
  rw [if_neg (fun e => e h), hp]
  simp only
  rw [if_neg (by omega)]

theorem put_there {T : List Tm} (hT : TOk T) {t : Tm} {i : Nat} (hi : T[i]? = some t) (he : errOf T t = 0) : put T t = (T, (i : Int), 0) := by
  unfold put
  rw [if_neg (fun e => e he), hT.place hi]

theorem put_grow (T : List Tm) (t : Tm) : ∃ r, (put T t).1 = T ++ r ∧ r.length ≤ 1 := by
  unfold put
  split
  · exact ⟨[], by simp, by simp⟩
  · split
    · exact ⟨[], by simp, by simp⟩
    · split
      · exact ⟨[], by simp, by simp⟩
      · exact ⟨[t], rfl, by simp⟩

/-- where a term is that was put -/
theorem putAt {T : List Tm} {t : Tm} (he : errOf T t = 0) (hl : T.length < 1048576) : ∃ k : Nat, (put T t).2.1 = (k : Int) ∧ (put T t).2.2 = 0 ∧ (put T t).1[k]? = some t := by
  unfold put
  rw [if_neg (fun e => e he)]
  cases hp : place T t with
  | some i => exact ⟨i, rfl, rfl, place_some hp⟩
  | none =>
    simp only
    rw [if_neg (by omega)]
    exact ⟨T.length, rfl, rfl, by simp⟩

/-! one in the other -/

def nestAt (κ : Nat → Nat) (j : Nat) : Tm :=
  if j = 0 then ⟨1, 0, []⟩ else
  let i := (j - 1) / 4
  if (j - 1) % 4 = 0 then ⟨1, ((100 + i : Nat) : Int), []⟩
  else if (j - 1) % 4 = 1 then ⟨5, 0, [((4 * i + 1 : Nat) : Int)]⟩
  else if (j - 1) % 4 = 2 then ⟨1, ((1000 + i : Nat) : Int), []⟩
  else if κ i = 0 then ⟨6, 0, [((4 * i + 1 : Nat) : Int), ((4 * i : Nat) : Int)]⟩
  else if κ i = 1 then ⟨7, 0, [((4 * i + 2 : Nat) : Int), ((4 * i + 3 : Nat) : Int), ((4 * i : Nat) : Int)]⟩
  else if κ i = 2 then ⟨8, 0, [((4 * i + 1 : Nat) : Int), ((4 * i : Nat) : Int)]⟩
  else ⟨9, 0, [((4 * i + 3 : Nat) : Int), ((4 * i : Nat) : Int)]⟩

def nests (κ : Nat → Nat) (m : Nat) : List Tm := (List.range (4 * m + 1)).map (nestAt κ)
theorem nests_len (κ : Nat → Nat) (m : Nat) : (nests κ m).length = 4 * m + 1 := by simp [nests]
theorem nests_at (κ : Nat → Nat) (m : Nat) {j : Nat} (h : j < 4 * m + 1) : (nests κ m)[j]? = some (nestAt κ j) := by simp [nests, h]
theorem nests_zero (κ : Nat → Nat) : nests κ 0 = [⟨1, 0, []⟩] := rfl

theorem nest1 (κ : Nat → Nat) (i : Nat) : nestAt κ (4 * i + 1) = ⟨1, ((100 + i : Nat) : Int), []⟩ := by
  unfold nestAt
  rw [if_neg (by omega)]
  simp only [show (4 * i + 1 - 1) / 4 = i by omega, show (4 * i + 1 - 1) % 4 = 0 by omega, if_true]
theorem nest2 (κ : Nat → Nat) (i : Nat) : nestAt κ (4 * i + 2) = ⟨5, 0, [((4 * i + 1 : Nat) : Int)]⟩ := by
  unfold nestAt
  rw [if_neg (by omega)]
  simp only [show (4 * i + 2 - 1) / 4 = i by omega, show (4 * i + 2 - 1) % 4 = 1 by omega]
  rfl
theorem nest3 (κ : Nat → Nat) (i : Nat) : nestAt κ (4 * i + 3) = ⟨1, ((1000 + i : Nat) : Int), []⟩ := by
  unfold nestAt
  rw [if_neg (by omega)]
  simp only [show (4 * i + 3 - 1) / 4 = i by omega, show (4 * i + 3 - 1) % 4 = 2 by omega]
  rfl
def nestT (κ : Nat → Nat) (i : Nat) : Tm :=
  if κ i = 0 then ⟨6, 0, [((4 * i + 1 : Nat) : Int), ((4 * i : Nat) : Int)]⟩
  else if κ i = 1 then ⟨7, 0, [((4 * i + 2 : Nat) : Int), ((4 * i + 3 : Nat) : Int), ((4 * i : Nat) : Int)]⟩
  else if κ i = 2 then ⟨8, 0, [((4 * i + 1 : Nat) : Int), ((4 * i : Nat) : Int)]⟩
  else ⟨9, 0, [((4 * i + 3 : Nat) : Int), ((4 * i : Nat) : Int)]⟩
theorem nest4 (κ : Nat → Nat) (i : Nat) : nestAt κ (4 * i + 4) = nestT κ i := by
  unfold nestAt nestT
  rw [if_neg (by omega)]
  simp only [show (4 * i + 4 - 1) / 4 = i by omega, show (4 * i + 4 - 1) % 4 = 3 by omega]
  rfl

theorem nests_succ (κ : Nat → Nat) (m : Nat) : nests κ (m + 1) = nests κ m ++ [⟨1, ((100 + m : Nat) : Int), []⟩, ⟨5, 0, [((4 * m + 1 : Nat) : Int)]⟩, ⟨1, ((1000 + m : Nat) : Int), []⟩, nestT κ m] := by
  unfold nests
  rw [show 4 * (m + 1) + 1 = (4 * m + 1) + 1 + 1 + 1 + 1 by omega, List.range_succ, List.range_succ, List.range_succ, List.range_succ]
  simp only [List.map_append, List.map_cons, List.map_nil, List.append_assoc, List.cons_append, List.nil_append]
  rw [nest1, show 4 * m + 1 + 1 = 4 * m + 2 by omega, nest2, show 4 * m + 2 + 1 = 4 * m + 3 by omega, nest3, show 4 * m + 3 + 1 = 4 * m + 4 by omega, nest4]

theorem nest_case {m j : Nat} (h : j < 4 * m + 1) : j = 0 ∨ ∃ i, i < m ∧ (j = 4 * i + 1 ∨ j = 4 * i + 2 ∨ j = 4 * i + 3 ∨ j = 4 * i + 4) := by
  rcases Nat.eq_zero_or_pos j with h0 | h0
  · exact .inl h0
  · exact .inr ⟨(j - 1) / 4, by omega, by omega⟩

/-- the four terms of a step are new -/
theorem nests_puts (κ : Nat → Nat) {m : Nat} (hm : m < 40) :
    put (nests κ m) ⟨1, ((100 + m : Nat) : Int), []⟩ = (nests κ m ++ [⟨1, ((100 + m : Nat) : Int), []⟩], ((4 * m + 1 : Nat) : Int), 0) ∧
    put (nests κ m ++ [⟨1, ((100 + m : Nat) : Int), []⟩]) ⟨5, 0, [((4 * m + 1 : Nat) : Int)]⟩ = (nests κ m ++ [⟨1, ((100 + m : Nat) : Int), []⟩, ⟨5, 0, [((4 * m + 1 : Nat) : Int)]⟩], ((4 * m + 2 : Nat) : Int), 0) ∧
    put (nests κ m ++ [⟨1, ((100 + m : Nat) : Int), []⟩, ⟨5, 0, [((4 * m + 1 : Nat) : Int)]⟩]) ⟨1, ((1000 + m : Nat) : Int), []⟩ = (nests κ m ++ [⟨1, ((100 + m : Nat) : Int), []⟩, ⟨5, 0, [((4 * m + 1 : Nat) : Int)]⟩, ⟨1, ((1000 + m : Nat) : Int), []⟩], ((4 * m + 3 : Nat) : Int), 0) ∧
    put (nests κ m ++ [⟨1, ((100 + m : Nat) : Int), []⟩, ⟨5, 0, [((4 * m + 1 : Nat) : Int)]⟩, ⟨1, ((1000 + m : Nat) : Int), []⟩]) (nestT κ m) = (nests κ (m + 1), ((4 * m + 4 : Nat) : Int), 0) := by
  have old : ∀ (t : Tm), (∀ i, i < m → nestAt κ (4 * i + 1) ≠ t ∧ nestAt κ (4 * i + 2) ≠ t ∧ nestAt κ (4 * i + 3) ≠ t ∧ nestAt κ (4 * i + 4) ≠ t) → (⟨1, 0, []⟩ : Tm) ≠ t → ∀ u ∈ nests κ m, u ≠ t := by
    intro t h h0 u hu
    obtain ⟨j, hj, rfl⟩ := List.mem_map.1 hu
    rw [List.mem_range] at hj
    rcases nest_case hj with rfl | ⟨i, hi, rfl | rfl | rfl | rfl⟩
    · exact h0
    · exact (h i hi).1
    · exact (h i hi).2.1
    · exact (h i hi).2.2.1
    · exact (h i hi).2.2.2
  have nk : ∀ i, (nestT κ i).kind = 6 ∨ (nestT κ i).kind = 7 ∨ (nestT κ i).kind = 8 ∨ (nestT κ i).kind = 9 := by
    intro i; unfold nestT; split <;> (try split) <;> (try split) <;> simp
  have n4 : ∀ (i : Nat) (t : Tm), t.kind < 6 → nestAt κ (4 * i + 4) ≠ t := by
    intro i t ht e
    rw [nest4] at e
    have := nk i
    rw [e] at this
    omega
  refine ⟨?_, ?_, ?_, ?_⟩
  · have hf : ∀ u ∈ nests κ m, u ≠ ⟨1, ((100 + m : Nat) : Int), []⟩ := by
      refine old _ (fun i hi => ⟨?_, ?_, ?_, n4 i _ (by simp)⟩) (by simp; omega)
      · rw [nest1]; simp; omega
      · rw [nest2]; simp
      · rw [nest3]; simp; omega
    rw [put_fresh (errOk (by simp) (by simp; omega) (.inl (.inl rfl)) (by simp [least]) (by simp) (by simp)) hf (by rw [nests_len]; omega), nests_len]
  · rw [put_fresh (errOk (by simp) (by simp) (.inr rfl) (by simp [least]) (by simp [mostOf]) (by simp [inT, nests_len]; omega)) ?_ (by simp [nests_len]; omega)]
    · simp [nests_len]
      try omega
    · intro u hu
      rw [List.mem_append] at hu
      rcases hu with hu | hu
      · refine old _ (fun i hi => ⟨?_, ?_, ?_, n4 i _ (by simp)⟩) (by simp) u hu
        · rw [nest1]; simp
        · rw [nest2]; simp; omega
        · rw [nest3]; simp
      · rw [List.mem_singleton] at hu; subst hu; simp
  · rw [put_fresh (errOk (by simp) (by simp; omega) (.inl (.inl rfl)) (by simp [least]) (by simp) (by simp)) ?_ (by simp [nests_len]; omega)]
    · simp [nests_len]
      try omega
    · intro u hu
      rw [List.mem_append] at hu
      rcases hu with hu | hu
      · refine old _ (fun i hi => ⟨?_, ?_, ?_, n4 i _ (by simp)⟩) (by simp; try omega) u hu
        · rw [nest1]; simp; try omega
        · rw [nest2]; simp
        · rw [nest3]; simp; try omega
      · simp only [List.mem_cons, List.not_mem_nil, or_false] at hu
        rcases hu with rfl | rfl
        · simp; try omega
        · simp
  · have hl : (nests κ m ++ ([⟨1, ((100 + m : Nat) : Int), []⟩, ⟨5, 0, [((4 * m + 1 : Nat) : Int)]⟩, ⟨1, ((1000 + m : Nat) : Int), []⟩] : List Tm)).length = 4 * m + 4 := by simp [nests_len]
    have hin : ∀ j : Nat, j < 4 * m + 4 → inT (nests κ m ++ ([⟨1, ((100 + m : Nat) : Int), []⟩, ⟨5, 0, [((4 * m + 1 : Nat) : Int)]⟩, ⟨1, ((1000 + m : Nat) : Int), []⟩] : List Tm)) (j : Int) := by
      intro j hj; unfold inT; rw [hl]; omega
    have he : errOf (nests κ m ++ ([⟨1, ((100 + m : Nat) : Int), []⟩, ⟨5, 0, [((4 * m + 1 : Nat) : Int)]⟩, ⟨1, ((1000 + m : Nat) : Int), []⟩] : List Tm)) (nestT κ m) = 0 := by
      have i0 := hin (4 * m) (by omega)
      have i1 := hin (4 * m + 1) (by omega)
      have i2 := hin (4 * m + 2) (by omega)
      have i3 := hin (4 * m + 3) (by omega)
      generalize nests κ m ++ ([⟨1, ((100 + m : Nat) : Int), []⟩, ⟨5, 0, [((4 * m + 1 : Nat) : Int)]⟩, ⟨1, ((1000 + m : Nat) : Int), []⟩] : List Tm) = T at *
      unfold nestT
      split
      · exact errOk (by simp) (by simp) (.inr rfl) (by simp [least]) (by simp [mostOf]) (by intro x hx; simp only [List.mem_cons, List.not_mem_nil, or_false] at hx; rcases hx with rfl | rfl <;> assumption)
      split
      · exact errOk (by simp) (by simp) (.inr rfl) (by simp [least]) (by simp [mostOf]) (by intro x hx; simp only [List.mem_cons, List.not_mem_nil, or_false] at hx; rcases hx with rfl | rfl | rfl <;> assumption)
      split
      · exact errOk (by simp) (by simp) (.inr rfl) (by simp [least]) (by simp [mostOf]) (by intro x hx; simp only [List.mem_cons, List.not_mem_nil, or_false] at hx; rcases hx with rfl | rfl <;> assumption)
      · exact errOk (by simp) (by simp) (.inr rfl) (by simp [least]) (by simp [mostOf]) (by intro x hx; simp only [List.mem_cons, List.not_mem_nil, or_false] at hx; rcases hx with rfl | rfl <;> assumption)
    rw [put_fresh he ?_ (by rw [hl]; omega), hl, nests_succ]
    · simp
    · have nkm := nk m
      intro u hu
      rw [List.mem_append] at hu
      rcases hu with hu | hu
      · refine old _ (fun i hi => ⟨?_, ?_, ?_, ?_⟩) (fun e => by rw [← e] at nkm; simp at nkm) u hu
        · rw [nest1]; exact fun e => by rw [← e] at nkm; simp at nkm
        · rw [nest2]; exact fun e => by rw [← e] at nkm; simp at nkm
        · rw [nest3]; exact fun e => by rw [← e] at nkm; simp at nkm
        · rw [nest4]
          intro e
          have last : ∀ i, (nestT κ i).args.getLast? = some ((4 * i : Nat) : Int) := by
            intro i; unfold nestT; split <;> (try split) <;> (try split) <;> rfl
          have e1 := last i
          rw [e, last m] at e1
          simp only [Option.some.injEq] at e1
          omega
      · simp only [List.mem_cons, List.not_mem_nil, or_false] at hu
        rcases hu with rfl | rfl | rfl <;> exact fun e => by rw [← e] at nkm; simp at nkm

def needs (κ : Nat → Nat) (j : Nat) : Prop := κ j = 0 ∨ κ j = 1
instance (κ : Nat → Nat) (j : Nat) : Decidable (needs κ j) := by unfold needs; infer_instance

theorem nests_kd (κ : Nat → Nat) {m j : Nat} (h : j < 4 * m + 1) : kd (nests κ m) j = (nestAt κ j).kind := kd_of (nests_at κ m h)
theorem nests_ar (κ : Nat → Nat) {m j : Nat} (h : j < 4 * m + 1) : ar (nests κ m) j = (nestAt κ j).args.map Int.toNat := ar_of (nests_at κ m h)

theorem nests_known (κ : Nat → Nat) {m : Nat} {hv : Nat → Prop} {S : Nat → Prop} (hS : ∀ i, S i ↔ (∃ j, j < m ∧ hv j ∧ i = 4 * j + 1) ∨ i = 4 * m) : Kn (nests κ m) S 0 ↔ ∀ j, j < m → needs κ j → hv j := by
  have k1 : ∀ {i}, i < m → kd (nests κ m) (4 * i + 1) = 1 ∧ ar (nests κ m) (4 * i + 1) = [] := fun {i} hi => ⟨by rw [nests_kd κ (by omega), nest1], by rw [nests_ar κ (by omega), nest1]; rfl⟩
  have k2 : ∀ {i}, i < m → kd (nests κ m) (4 * i + 2) = 5 ∧ ar (nests κ m) (4 * i + 2) = [4 * i + 1] := fun {i} hi => ⟨by rw [nests_kd κ (by omega), nest2], by rw [nests_ar κ (by omega), nest2]; simp; rfl⟩
  have k3 : ∀ {i}, i < m → kd (nests κ m) (4 * i + 3) = 1 ∧ ar (nests κ m) (4 * i + 3) = [] := fun {i} hi => ⟨by rw [nests_kd κ (by omega), nest3], by rw [nests_ar κ (by omega), nest3]; rfl⟩
  have k0 : kd (nests κ m) 0 = 1 ∧ ar (nests κ m) 0 = [] := ⟨by rw [nests_kd κ (by omega)]; rfl, by rw [nests_ar κ (by omega)]; rfl⟩
  have k4 : ∀ {i}, i < m → (κ i = 0 ∧ kd (nests κ m) (4 * i + 4) = 6 ∧ ar (nests κ m) (4 * i + 4) = [4 * i + 1, 4 * i]) ∨ (κ i = 1 ∧ kd (nests κ m) (4 * i + 4) = 7 ∧ ar (nests κ m) (4 * i + 4) = [4 * i + 2, 4 * i + 3, 4 * i]) ∨
      (κ i ≠ 0 ∧ κ i ≠ 1 ∧ kd (nests κ m) (4 * i + 4) = 8 ∧ ar (nests κ m) (4 * i + 4) = [4 * i + 1, 4 * i]) ∨ (κ i ≠ 0 ∧ κ i ≠ 1 ∧ kd (nests κ m) (4 * i + 4) = 9 ∧ ar (nests κ m) (4 * i + 4) = [4 * i + 3, 4 * i]) := by
    intro i hi
    rw [nests_kd κ (by omega), nests_ar κ (by omega), nest4]
    unfold nestT
    split
    · rename_i h; exact .inl ⟨h, rfl, by simp; omega⟩
    split
    · rename_i h0 h; exact .inr (.inl ⟨h, rfl, by simp; omega⟩)
    split
    · rename_i h0 h1 h; exact .inr (.inr (.inl ⟨h0, h1, rfl, by simp; omega⟩))
    · rename_i h0 h1 h; exact .inr (.inr (.inr ⟨h0, h1, rfl, by simp; omega⟩))
  have out : ∀ i, 4 * m + 1 ≤ i → kd (nests κ m) i = 0 := fun i hi => kd_out (by rw [nests_len]; exact hi)
  constructor
  · intro hk j0 hj0 hn
    refine Classical.byContradiction fun hno => ?_
    have nk : ∀ {j}, j < m → kd (nests κ m) (4 * j + 4) = 8 ∨ kd (nests κ m) (4 * j + 4) = 9 → j ≠ j0 := by
      rintro j hj hk rfl
      unfold needs at hn
      rcases k4 hj with ⟨_, h, _⟩ | ⟨_, h, _⟩ | ⟨h0, h1, _⟩ | ⟨h0, h1, _⟩
      · omega
      · omega
      · omega
      · omega
    refine Kn.avoid (fun i => (∃ j, j ≤ j0 ∧ i = 4 * j) ∨ i = 4 * j0 + 1 ∨ i = 4 * j0 + 3) ?_ ?_ ?_ ?_ ?_ ?_ 0 hk (.inl ⟨0, by omega, rfl⟩)
    · intro i hi hb
      rcases (hS i).1 hi with ⟨j, hj, hh, rfl⟩ | rfl
      · rcases hb with ⟨q, _, e⟩ | e | e
        · omega
        · have : j = j0 := by omega
          subst this; exact hno hh
        · omega
      · rcases hb with ⟨q, hq, e⟩ | e | e <;> omega
    · intro i hi hb
      rw [nests_len] at hi
      rcases hb with ⟨q, hq, rfl⟩ | rfl | rfl
      · rcases Nat.eq_zero_or_pos q with rfl | hq0
        · left; exact k0.1
        · right
          obtain ⟨p, rfl⟩ : ∃ p, q = p + 1 := ⟨q - 1, by omega⟩
          refine ⟨4 * p, ?_, .inl ⟨p, by omega, rfl⟩⟩
          rw [show 4 * (p + 1) = 4 * p + 4 by omega]
          rcases k4 (i := p) (by omega) with ⟨_, _, e⟩ | ⟨_, _, e⟩ | ⟨_, _, _, e⟩ | ⟨_, _, _, e⟩ <;> rw [e] <;> simp
      · left; exact (k1 hj0).1
      · left; exact (k3 hj0).1
    · intro i hb h9 x hx hbx
      rcases Nat.lt_or_ge i (4 * m + 1) with hi | hi
      · rcases nest_case hi with rfl | ⟨j, hj, rfl | rfl | rfl | rfl⟩
        · rw [k0.1] at h9; omega
        · rw [(k1 hj).1] at h9; omega
        · rw [(k2 hj).1] at h9; omega
        · rw [(k3 hj).1] at h9; omega
        · have hne := nk hj (.inr h9)
          have hlt : j0 < j := by
            rcases Nat.lt_or_ge j0 j with h | h
            · exact h
            · exact absurd (.inl ⟨j + 1, by omega, by omega⟩) hb
          rcases k4 hj with ⟨_, h, _⟩ | ⟨_, h, _⟩ | ⟨_, _, h, _⟩ | ⟨_, _, _, e⟩
          · omega
          · omega
          · omega
          · rw [e] at hx
            simp at hx
            rcases hx with rfl | rfl
            · rcases hbx with ⟨q, hq, e⟩ | e | e <;> omega
            · rcases hbx with ⟨q, hq, e⟩ | e | e <;> omega
      · rw [out i hi] at h9; omega
    · intro i hb h8 x hx hbx
      rcases Nat.lt_or_ge i (4 * m + 1) with hi | hi
      · rcases nest_case hi with rfl | ⟨j, hj, rfl | rfl | rfl | rfl⟩
        · rw [k0.1] at h8; omega
        · rw [(k1 hj).1] at h8; omega
        · rw [(k2 hj).1] at h8; omega
        · rw [(k3 hj).1] at h8; omega
        · have hne := nk hj (.inl h8)
          have hlt : j0 < j := by
            rcases Nat.lt_or_ge j0 j with h | h
            · exact h
            · exact absurd (.inl ⟨j + 1, by omega, by omega⟩) hb
          rcases k4 hj with ⟨_, h, _⟩ | ⟨_, h, _⟩ | ⟨_, _, _, e⟩ | ⟨_, _, h, _⟩
          · omega
          · omega
          · rw [e] at hx
            simp at hx
            subst hx
            rcases hbx with ⟨q, hq, e⟩ | e | e <;> omega
          · omega
      · rw [out i hi] at h8; omega
    · intro i hb h6 ha x hx hbx
      rcases Nat.lt_or_ge i (4 * m + 1) with hi | hi
      · rcases nest_case hi with rfl | ⟨j, hj, rfl | rfl | rfl | rfl⟩
        · rw [k0.1] at h6; omega
        · rw [(k1 hj).1] at h6; omega
        · rw [(k2 hj).1] at h6; omega
        · rw [(k3 hj).1] at h6; omega
        · rcases k4 hj with ⟨_, _, e⟩ | ⟨_, h, _⟩ | ⟨_, _, h, _⟩ | ⟨_, _, h, _⟩
          · have ea : a0 (nests κ m) (4 * j + 4) = 4 * j + 1 := by unfold a0; rw [e]; rfl
            rw [ea] at ha
            have hne : j ≠ j0 := by rintro rfl; exact ha (.inr (.inl rfl))
            have hlt : j0 < j := by
              rcases Nat.lt_or_ge j0 j with h | h
              · exact h
              · exact absurd (.inl ⟨j + 1, by omega, by omega⟩) hb
            rw [e] at hx
            simp at hx
            subst hx
            rcases hbx with ⟨q, hq, e⟩ | e | e <;> omega
          · omega
          · omega
          · omega
      · rw [out i hi] at h6; omega
    · intro i hb h7 ha x hx hbx
      rcases Nat.lt_or_ge i (4 * m + 1) with hi | hi
      · rcases nest_case hi with rfl | ⟨j, hj, rfl | rfl | rfl | rfl⟩
        · rw [k0.1] at h7; omega
        · rw [(k1 hj).1] at h7; omega
        · rw [(k2 hj).1] at h7; omega
        · rw [(k3 hj).1] at h7; omega
        · rcases k4 hj with ⟨_, h, _⟩ | ⟨_, _, e⟩ | ⟨_, _, h, _⟩ | ⟨_, _, h, _⟩
          · omega
          · have ea : a0 (nests κ m) (4 * j + 4) = 4 * j + 2 := by unfold a0; rw [e]; rfl
            have eb : a1 (nests κ m) (4 * j + 4) = 4 * j + 3 := by unfold a1; rw [e]; rfl
            have ec : a0 (nests κ m) (4 * j + 2) = 4 * j + 1 := by unfold a0; rw [(k2 hj).2]; rfl
            rw [ea, eb, ec] at ha
            have hne : j ≠ j0 := by
              rintro rfl
              rcases ha with ha | ⟨_, ha⟩
              · exact ha (.inr (.inr rfl))
              · exact ha (.inr (.inl rfl))
            have hlt : j0 < j := by
              rcases Nat.lt_or_ge j0 j with h | h
              · exact h
              · exact absurd (.inl ⟨j + 1, by omega, by omega⟩) hb
            rw [e] at hx
            simp at hx
            subst hx
            rcases hbx with ⟨q, hq, e⟩ | e | e <;> omega
          · omega
          · omega
      · rw [out i hi] at h7; omega
  · intro h
    have down : ∀ d j, j + d = m → Kn (nests κ m) S (4 * j) := by
      intro d
      induction d with
      | zero => intro j hj; exact .start ((hS _).2 (.inr (by omega)))
      | succ d ih =>
        intro j hj
        have hk := ih (j + 1) (by omega)
        rw [show 4 * (j + 1) = 4 * j + 4 by omega] at hk
        have hjm : j < m := by omega
        rcases k4 hjm with ⟨h0, h6, e⟩ | ⟨h1, h7, e⟩ | ⟨_, _, h8, e⟩ | ⟨_, _, h9, e⟩
        · have ea : a0 (nests κ m) (4 * j + 4) = 4 * j + 1 := by unfold a0; rw [e]; rfl
          exact .lock hk h6 (by rw [ea]; exact .start ((hS _).2 (.inl ⟨j, hjm, h j hjm (.inl h0), rfl⟩))) (by rw [e]; simp)
        · have ea : a0 (nests κ m) (4 * j + 4) = 4 * j + 2 := by unfold a0; rw [e]; rfl
          have ec : a0 (nests κ m) (4 * j + 2) = 4 * j + 1 := by unfold a0; rw [(k2 hjm).2]; rfl
          exact .box2 hk h7 (by rw [ea]; exact (k2 hjm).1) (by rw [ea, ec]; exact .start ((hS _).2 (.inl ⟨j, hjm, h j hjm (.inr h1), rfl⟩))) (by rw [e]; simp)
        · exact .sig hk h8 (by rw [e]; simp)
        · exact .list hk h9 (by rw [e]; simp)
    exact down m 0 (by omega)

end Go.Lf

/-
  Slices that are made in any order: what suffices for the region.
-/
namespace Go.Lf
open Go Go.RowKit Go.ChangeShapes
set_option linter.unusedVariables false
variable {P : Program} {n : Nat} {ops : Array Oper} {Q : Exit → Act → World → Prop} {S : World → Prop}

/-- what a make leaves -/
structure MkS where
  by' : Nat
  size : Nat
  z : Value
  e : TypeId

def MkS.run (m : MkS) (x : Int) (w : World) : World := w.alloc (.cells ((Array.range (x.toNat * m.size)).map (m.z.cells[· % m.z.cells.size]!)) m.e)
def MkS.may (m : MkS) (x : Int) : Prop := 0 ≤ x ∧ x ≤ x ∧ (m.by' : Int) * x ≤ 281474976710656 ∧ x ≤ 9223372036854775807

structure MkOp (P : Program) (n : Nat) (ops : Array Oper) (fr : Fr) (x : Int) (i d : Nat) (m : MkS) : Prop where
  has : ∃ o T l c i0, ops[i]? = some o ∧ o.op = .makeSlice T l c ∧ o.guard = none ∧ o.dst = some d ∧ P.underlying T = some (.slice m.e) ∧ P.info? m.e = some i0 ∧ i0.zero = some m.z ∧ i0.bytes = m.by' ∧ i0.size = m.size ∧
    (∃ q, evo fr l = some (.int q x)) ∧ (∃ q, evo fr c = some (.int q x))
  lt : d < n
  new : fget fr d = none

theorem fget_app {fr fr' : Fr} {t : Nat} {v : Value} (h : fget fr t = some v) (hn : fget fr' t = none) : fget (fr' ++ fr) t = some v := by
  induction fr' with
  | nil => exact h
  | cons p r ih =>
    obtain ⟨s, u⟩ := p
    unfold fget at hn
    show cond (Nat.beq s t) (some u) (fget (r ++ fr) t) = some v
    cases hb : Nat.beq s t with
    | true => rw [hb] at hn; cases hn
    | false => rw [hb] at hn; exact ih hn

theorem evo_app {fr fr' : Fr} {y : Operand} {v : Value} (h : evo fr y = some v) (hn : ∀ t, y = .tmp t → fget fr' t = none) : evo (fr' ++ fr) y = some v := by
  cases y with
  | tmp t => exact fget_app h (hn t rfl)
  | const v => exact h
  | global g => exact h
  | func f => exact h

/-- one of them, wherever it comes -/
theorem MkOp.step {fr fr' : Fr} {x : Int} {i d : Nat} {m : MkS} (h : MkOp P n ops fr x i d m) (hfr : ∀ t, fget fr' t ≠ none → fget fr t = none) (hm : m.may x) {a : Act} {w : World} (hs : St n (fr' ++ fr) a) {K : Act → World → Prop}
    (hK : ∀ a', St n ((d, .slice (some (newA w)) x.toNat x.toNat) :: fr' ++ fr) a' → K a' (m.run x w)) : wpOp P ops Q i K a w := by
  obtain ⟨o, T, l, c, i0, ho, hop, hg, hd, hT, hi, hz, hb, hsz, ⟨q1, hl⟩, ⟨q2, hc⟩⟩ := h.has
  unfold wpOp
  rw [ho]
  simp only
  have hw : Region.wanted o (yielded ops a.tmps) = true := by unfold Region.wanted; rw [hg]
  rw [hw, if_pos rfl]
  left
  have ev' : ∀ {y : Operand} {q : IntKind}, evo fr y = some (.int q x) → evo (fr' ++ fr) y = some (.int q x) := by
    intro y q hy
    refine evo_app hy fun t ht => ?_
    subst ht
    cases hh : fget fr' t with
    | none => rfl
    | some v =>
      have := hfr t (by rw [hh]; simp)
      have hy' : fget fr t = some (.int q x) := hy
      rw [this] at hy'; cases hy'
  refine LLoud.wp (n := n) (fr := fr' ++ fr) (K := fun v w' => v = .slice (some (newA w)) x.toNat x.toNat ∧ w' = m.run x w) hs ?_ ?_
  · unfold LLoud
    rw [hop]
    simp only [ev' hl, ev' hc, hT, hi, hz]
    rw [hb, hsz]
    exact ⟨hm.1, hm.2.1, hm.2.2.1, hm.2.2.2, rfl, rfl⟩
  · rintro v w' ⟨rfl, rfl⟩
    rw [hd]
    exact hK _ (hs.put h.lt _)

/-- what is asked: in whatever order they come -/
def MkP (spec : Nat → MkS) (x : Int) (K : (Nat → Addr) → World → Prop) : Nat → List Nat → (Nat → Addr) → World → Prop
  | 0, _, A, w => K A w
  | k + 1, rem, A, w => ∀ i ∈ rem, (spec i).may x ∧ MkP spec x K k (rem.erase i) (fun j => if j = i then newA w else A j) ((spec i).run x w)

def frOf (dst : Nat → Nat) (x : Int) (A : Nat → Addr) (l : List Nat) : Fr := l.map fun i => (dst i, .slice (some (A i)) x.toNat x.toNat)

theorem fget_frOf {dst : Nat → Nat} {x : Int} {A : Nat → Addr} {t : Nat} : ∀ {l : List Nat}, fget (frOf dst x A l) t ≠ none → ∃ i ∈ l, dst i = t
  | [], h => absurd rfl h
  | i :: l, h => by
    unfold frOf fget at h
    simp only [List.map_cons] at h
    cases hb : Nat.beq (dst i) t with
    | true => exact ⟨i, by simp, Nat.eq_of_beq_eq_true hb⟩
    | false =>
      rw [hb] at h
      obtain ⟨j, hj, e⟩ := fget_frOf (l := l) h
      exact ⟨j, by simp [hj], e⟩

theorem mk_any {fr : Fr} {x : Int} {L0 : Array Bool} {all : List Nat} {dst : Nat → Nat} {spec : Nat → MkS} (hop : ∀ i ∈ all, MkOp P n ops fr x i (dst i) (spec i)) (hnd : all.Nodup)
    (hfree : ∀ i ∈ all, L0.getD i true = false) (hrdy : ∀ i ∈ all, ∀ o, ops[i]? = some o → ∀ e ∈ o.after, Region.binds .any e = true → L0.getD e.on false = true)
    (hrest : ∀ j o, ops[j]? = some o → L0.getD j true = false → j ∉ all → (∃ e ∈ o.after, Region.binds .any e = true ∧ e.on ∉ all ∧ L0.getD e.on false = false) ∨ ∀ i ∈ all, ∃ e ∈ o.after, Region.binds .any e = true ∧ e.on = i)
    (hno : ∀ L, needB P ops L = false) {K : (Nat → Addr) → World → Prop} {f : Nat}
    (fin : ∀ (done : List Nat) (A : Nat → Addr) (L : Array Bool) (a : Act) (w : World), done.Perm all → L.size = L0.size → (∀ j b, L.getD j b = if j ∈ all then true else L0.getD j b) → St n (frOf dst x A done ++ fr) a → K A w → wpAnyG P ops Q S f L a w) :
    ∀ (k : Nat) (rem done : List Nat) (A : Nat → Addr) (L : Array Bool) (a : Act) (w : World), rem.length = k → (done ++ rem).Perm all → L.size = L0.size → (∀ j b, L.getD j b = if j ∈ done then true else L0.getD j b) → St n (frOf dst x A done ++ fr) a → MkP spec x K k rem A w → wpAnyG P ops Q S (k + f) L a w
  | 0, rem, done, A, L, a, w, hl, hp, hsz, hL, hs, h => by
    have hr : rem = [] := List.length_eq_zero_iff.1 hl
    subst hr
    rw [List.append_nil] at hp
    rw [Nat.zero_add]
    refine fin done A L a w hp hsz (fun j b => ?_) hs h
    rw [hL j b]
    by_cases hj : j ∈ all
    · rw [if_pos hj, if_pos (hp.mem_iff.2 hj)]
    · rw [if_neg hj, if_neg (fun hd => hj (hp.mem_iff.1 hd))]
  | k + 1, rem, done, A, L, a, w, hl, hp, hsz, hL, hs, h => by
    have hnd2 : (done ++ rem).Nodup := hp.nodup_iff.2 hnd
    have hdr : ∀ i ∈ rem, i ∉ done := fun i hi hd => (List.nodup_append.1 hnd2).2.2 i hd i hi rfl
    have hin : ∀ i ∈ rem, i ∈ all := fun i hi => hp.mem_iff.1 (List.mem_append.2 (.inr hi))
    have hdin : ∀ i ∈ done, i ∈ all := fun i hi => hp.mem_iff.1 (List.mem_append.2 (.inl hi))
    obtain ⟨r, hr⟩ : ∃ r, r ∈ rem := by cases rem with
      | nil => simp at hl
      | cons r t => exact ⟨r, by simp⟩
    have hfF : ∀ i ∈ all, L0.getD i false = false := by
      intro i hi
      have h1 := hfree i hi
      rcases Nat.lt_or_ge i L0.size with h' | h'
      · simp [h'] at h1 ⊢; exact h1
      · simp [Array.getElem?_eq_none h'] at h1
    have e1 : k + 1 + f = (k + f) + 1 := by omega
    rw [e1]
    refine ⟨fun h0 => ?_, fun i hi => ?_⟩
    · exfalso
      have hrr : r ∈ Region.ready .any ops L := by
        obtain ⟨o, _, _, _, _, ho, _⟩ := (hop r (hin r hr)).has
        refine mem_ready.2 ⟨by rw [hL, if_neg (hdr r hr)]; exact hfree r (hin r hr), o, ho, fun e he hb => ?_⟩
        rw [hL]
        split
        · rfl
        · exact hrdy r (hin r hr) o ho e he hb
      rw [h0] at hrr
      cases hrr
    · obtain ⟨hun, o, ho, hall⟩ := mem_ready.1 hi
      rw [hL] at hun
      have hid : i ∉ done := fun hd => by rw [if_pos hd] at hun; cases hun
      rw [if_neg hid] at hun
      have hia : i ∈ all := by
        apply Decidable.byContradiction
        intro hia
        rcases hrest i o ho hun hia with ⟨e, he, hb, hon, hoff⟩ | hdep
        · have h1 := hall e he hb
          rw [hL, if_neg (fun hd => hon (hdin _ hd)), hoff] at h1
          cases h1
        · obtain ⟨e, he, hb, hon⟩ := hdep r (hin r hr)
          have h1 := hall e he hb
          rw [hon, hL, if_neg (hdr r hr), hfF r (hin r hr)] at h1
          cases h1
      have hir : i ∈ rem := by
        rcases List.mem_append.1 (hp.mem_iff.2 hia) with h1 | h1
        · exact absurd h1 hid
        · exact h1
      obtain ⟨hmay, hnext⟩ := h i hir
      have hA : frOf dst x (fun j => if j = i then newA w else A j) done = frOf dst x A done := by
        unfold frOf
        refine List.map_congr_left fun j hj => ?_
        have hne : ¬ j = i := fun e => hid (by rw [← e]; exact hj)
        simp only [if_neg hne]
      refine (hop i hia).step (fr' := frOf dst x A done) (fun t ht => ?_) hmay hs fun a' hs' => ⟨fun hn => ?_, ?_⟩
      · obtain ⟨j, hj, rfl⟩ := fget_frOf ht
        exact (hop j (hdin j hj)).new
      · rw [hno] at hn; cases hn
      · refine mk_any hop hnd hfree hrdy hrest hno fin k (rem.erase i) (i :: done) (fun j => if j = i then newA w else A j) (L.setIfInBounds i true) a' _ ?_ ?_ ?_ (fun j b => ?_) ?_ hnext
        · rw [List.length_erase_of_mem hir]; omega
        · refine List.Perm.trans ?_ hp
          refine (List.perm_middle (l₁ := []) (a := i)).symm.trans ?_
          show (i :: (done ++ rem.erase i)).Perm (done ++ rem)
          exact (List.perm_middle.symm).trans ((List.perm_cons_erase hir).symm.append_left done)
        · simp [hsz]
        · by_cases hji : j = i
          · subst hji
            rw [if_pos (by simp)]
            have hlt : j < L.size := by
              rw [hsz]
              rcases Nat.lt_or_ge j L0.size with h' | h'
              · exact h'
              · have := hfree j hia; simp [Array.getElem?_eq_none h'] at this
            simp [hlt]
          · rw [getD_set_ne b (fun e => hji e.symm), hL]
            simp [hji]
        · show St n ((dst i, Value.slice (some (if i = i then newA w else A i)) x.toNat x.toNat) :: frOf dst x (fun j => if j = i then newA w else A j) done ++ fr) a'
          rw [hA, if_pos rfl]
          exact hs'

/-- operations that only reckon, taken first -/
def LPre (P : Program) (n : Nat) (ops : Array Oper) (K : Array Bool → Fr → Prop) : List Nat → Array Bool → Fr → Prop
  | [], L, fr => K L fr
  | i :: r, L, fr =>
    match ops[i]? with
    | some o => cond (quietB P o.op && Region.free .any ops L i && (Region.ready .any ops L).contains i && o.guard.isNone) (LQuiet P o fr (fun _ _ => False) fun v => putK n o.dst v fr fun fr => LPre P n ops K r (L.setIfInBounds i true) fr) False
    | none => False

theorem LPre.wp {K : Array Bool → Fr → Prop} (hsel : Region.noSelect ops = true) {f : Nat} {w : World} : ∀ (l : List Nat) (L : Array Bool) (fr : Fr) (a : Act), Closed ops L → LPre P n ops K l L fr → St n fr a →
    (∀ L' fr' a', K L' fr' → St n fr' a' → Closed ops L' → wpAnyG P ops (NoPanic Q) (fun _ => True) f L' a' w) → wpAnyG P ops (NoPanic Q) (fun _ => True) (l.length + f) L a w
  | [], L, fr, a, hc, h, hs, hk => by
    rw [List.length_nil, Nat.zero_add]; exact hk L fr a h hs hc
  | i :: r, L, fr, a, hc, h, hs, hk => by
    unfold LPre at h
    split at h
    · rename_i o ho
      obtain ⟨hb, h⟩ := cond_f h
      simp only [Bool.and_eq_true] at hb
      obtain ⟨⟨⟨hq, hfree⟩, hrd⟩, hg⟩ := hb
      have hrd : i ∈ Region.ready .any ops L := by simpa using hrd
      have hw : Region.wanted o (yielded ops a.tmps) = true := by
        unfold Region.wanted
        cases hgu : o.guard with
        | none => rfl
        | some g => rw [hgu] at hg; cases hg
      obtain ⟨v, hv, hrun⟩ := LQuiet.out hs h
      obtain ⟨fr2, hs2, h2⟩ := putK.out hs hv
      rw [show (i :: r).length + f = (r.length + f) + 1 by simp; omega]
      exact wpAnyG_first (S' := fun _ => True) ho hq (Region.noSelect_spec hsel) (fun c a w h => h) (fun _ _ _ _ _ => trivial) _ L a w hc (Region.free_spec ho hfree) hrd (.inl ⟨hw, fun x _ => hrun x fun q u hqu => hqu.elim⟩) (fun _ => trivial)
        (LPre.wp hsel r _ fr2 _ (hc.ready hrd) h2 hs2 hk)
    · exact h.elim

theorem fget_frOf_at {dst : Nat → Nat} {x : Int} {A : Nat → Addr} {fr : Fr} {i : Nat} : ∀ {l : List Nat}, i ∈ l → (∀ j ∈ l, dst j = dst i → j = i) → fget (frOf dst x A l ++ fr) (dst i) = some (.slice (some (A i)) x.toNat x.toNat)
  | [], h, _ => by cases h
  | j :: l, h, hinj => by
    show cond (Nat.beq (dst j) (dst i)) (some _) (fget (frOf dst x A l ++ fr) (dst i)) = _
    cases hb : Nat.beq (dst j) (dst i) with
    | true =>
      have := hinj j (by simp) (Nat.eq_of_beq_eq_true hb)
      subst this; rfl
    | false =>
      have hne : j ≠ i := fun e => by subst e; rw [Nat.beq_refl] at hb; cases hb
      rcases List.mem_cons.1 h with e | h
      · exact absurd e.symm hne
      · exact fget_frOf_at h fun y hy => hinj y (by simp [hy])

theorem fget_frOf_out {dst : Nat → Nat} {x : Int} {A : Nat → Addr} {fr : Fr} {t : Nat} : ∀ {l : List Nat}, (∀ j ∈ l, dst j ≠ t) → fget (frOf dst x A l ++ fr) t = fget fr t
  | [], _ => rfl
  | j :: l, h => by
    show cond (Nat.beq (dst j) t) (some _) (fget (frOf dst x A l ++ fr) t) = _
    cases hb : Nat.beq (dst j) t with
    | true => exact absurd (Nat.eq_of_beq_eq_true hb) (h j (by simp))
    | false => exact fget_frOf_out fun y hy => h y (by simp [hy])

theorem St.perm {dst : Nat → Nat} {x : Int} {A : Nat → Addr} {fr : Fr} {l m : List Nat} {a : Act} (h : St n (frOf dst x A l ++ fr) a) (hp : l.Perm m) (hinj : ∀ i ∈ m, ∀ j ∈ m, dst j = dst i → j = i) : St n (frOf dst x A m ++ fr) a := by
  refine ⟨h.size, h.defers, fun t v hv => h.fits t v ?_⟩
  by_cases ht : ∃ i ∈ m, dst i = t
  · obtain ⟨i, hi, rfl⟩ := ht
    rw [fget_frOf_at hi (hinj i hi)] at hv
    rw [fget_frOf_at (hp.mem_iff.2 hi) fun j hj => hinj i hi j (hp.mem_iff.1 hj)]
    exact hv
  · rw [fget_frOf_out fun j hj e => ht ⟨j, hj, e⟩] at hv
    rw [fget_frOf_out fun j hj e => ht ⟨j, hp.mem_iff.1 hj, e⟩]
    exact hv

theorem closed_none {ops : Array Oper} : Closed ops (Array.replicate ops.size false) := by
  intro j o _ hL
  simp [Array.getElem?_replicate] at hL
  split at hL <;> cases hL

/-- a region whose makes come in any order -/
theorem region_mk {id : Nat} (hm : P.follows .mixedOrders = true) (hsel : Region.noSelect ops = true) (hno : ∀ L, needB P ops L = false) {fr fr1 : Fr} {x : Int} {pre all : List Nat} {L1 L2 : Array Bool} {dst : Nat → Nat} {spec : Nat → MkS} {K : (Nat → Addr) → World → Prop} {Kf : Fr → World → Prop} {f : Nat} {a : Act} {w : World}
    (hsz : ops.size = pre.length + (all.length + f)) (hpre : LPre P n ops (fun L fr' => L = L1 ∧ fr' = fr1) pre (Array.replicate ops.size false) fr)
    (hop : ∀ i ∈ all, MkOp P n ops fr1 x i (dst i) (spec i)) (hnd : all.Nodup) (hinj : ∀ i ∈ all, ∀ j ∈ all, dst j = dst i → j = i)
    (hfree : ∀ i ∈ all, L1.getD i true = false) (hrdy : ∀ i ∈ all, ∀ o, ops[i]? = some o → ∀ e ∈ o.after, Region.binds .any e = true → L1.getD e.on false = true)
    (hrest : ∀ j o, ops[j]? = some o → L1.getD j true = false → j ∉ all → (∃ e ∈ o.after, Region.binds .any e = true ∧ e.on ∉ all ∧ L1.getD e.on false = false) ∨ ∀ i ∈ all, ∃ e ∈ o.after, Region.binds .any e = true ∧ e.on = i)
    (h2 : L2.size = L1.size ∧ ∀ j, j < L1.size → L2.getD j false = (if j ∈ all then true else L1.getD j false)) (hc2 : Closed ops L2)
    (hs : St n fr a) (hmk : MkP spec x K all.length all (fun _ => ⟨0, 0, none⟩) w.drew) (hfin : ∀ A w', K A w' → LAny P n ops (fun _ => True) Kf f L2 (frOf dst x A all ++ fr1) w') (hK : ∀ fr a w, Kf fr w → St n fr a → Q .normal a w) :
    (Code.region id ops true).wp P Q a w := by
  refine wp_region_noPanic (wp_region_any hm (wpAny_of_G (S := fun _ => True) _ _ _ _ ?_))
  rw [hsz]
  have hst : Array.replicate (pre.length + (all.length + f)) false = Array.replicate ops.size false := by rw [hsz]
  rw [hst]
  refine LPre.wp hsel pre _ fr a closed_none hpre hs ?_
  rintro L' fr' a' ⟨rfl, rfl⟩ hs' hc'
  refine mk_any (Q := NoPanic Q) (S := fun _ => True) hop hnd hfree hrdy hrest hno (K := K) (f := f) ?_ all.length all [] (fun _ => ⟨0, 0, none⟩) L' a' _ rfl (by simp) rfl (fun j b => by simp) hs' hmk
  intro done A L a2 w2 hp hLs hL hs2 hk
  have hLe : L = L2 := by
    refine Array.ext (by rw [hLs, h2.1]) fun j hj1 hj2 => ?_
    have e1 := hL j false
    have e2 := h2.2 j (by rw [← h2.1]; exact hj2)
    rw [← e2] at e1
    simpa [hj1, hj2] using e1
  subst hLe
  exact LAny.wp hsel hK f L _ a2 w2 hc2 (fun _ => trivial) (hfin A w2 hk) (hs2.perm hp hinj)

/-! the same, by what the kernel reckons -/

def MkTriv (m : MkS) (d : Nat) (x : Int) : Prop :=
  m.e = m.e ∧ some m.z = some m.z ∧ m.by' = m.by' ∧ m.size = m.size ∧ (none : Option (Nat × Bool)) = none ∧ some d = some d ∧ some (Value.int .i64 x) = some (Value.int .i64 x) ∧ some (Value.int .i64 x) = some (Value.int .i64 x) ∧ true = true ∧ (none : Option Value) = none

def MkOk (P : Program) (n : Nat) (ops : Array Oper) (fr : Fr) (x : Int) (i d : Nat) (m : MkS) : Prop :=
  match ops[i]? with
  | some o =>
    match o.op with
    | .makeSlice T l c =>
      match P.underlying T with
      | some (.slice e) =>
        match P.info? e with
        | some i0 => e = m.e ∧ i0.zero = some m.z ∧ i0.bytes = m.by' ∧ i0.size = m.size ∧ o.guard = none ∧ o.dst = some d ∧ evo fr l = some (.int .i64 x) ∧ evo fr c = some (.int .i64 x) ∧ Nat.blt d n = true ∧ fget fr d = none
        | none => False
      | _ => False
    | _ => False
  | none => False

theorem MkOk.op {fr : Fr} {x : Int} {i d : Nat} {m : MkS} (h : MkOk P n ops fr x i d m) : MkOp P n ops fr x i d m := by
  unfold MkOk at h
  split at h
  · rename_i o ho
    split at h
    · rename_i T l c hop
      split at h
      · rename_i e hT
        split at h
        · rename_i i0 hi
          obtain ⟨h1, h2, h3, h4, h5, h6, h7, h8, h9, h10⟩ := h
          subst h1
          exact ⟨⟨o, T, l, c, i0, ho, hop, h5, h6, hT, hi, h2, h3, h4, ⟨_, h7⟩, ⟨_, h8⟩⟩, by simpa [Nat.blt_eq] using h9, h10⟩
        · exact h.elim
      · exact h.elim
    · exact h.elim
  · exact h.elim

theorem AllL.of {F : Nat → Prop} (h : ∀ i, F i) : ∀ l : List Nat, AllL F l
  | [] => trivial
  | [i] => h i
  | i :: j :: r => ⟨h i, AllL.of h (j :: r)⟩

theorem needB_none (h : Nat.beq (loadBits ops.toList 0) 0 = true) (L : Array Bool) : needB P ops L = false := by
  have := Nat.eq_of_beq_eq_true h
  unfold needB
  rw [this]; simp

def rdyB (ops : Array Oper) (L : Array Bool) (all : List Nat) : Bool :=
  all.all fun i => match ops[i]? with
    | some o => o.after.toList.all fun e => !Region.binds .any e || L.getD e.on false
    | none => true
def restB (ops : Array Oper) (L : Array Bool) (all : List Nat) : Bool :=
  (List.range ops.size).all fun j => match ops[j]? with
    | some o => L.getD j true || all.contains j || (o.after.toList.any fun e => Region.binds .any e && !all.contains e.on && !L.getD e.on false) || (all.all fun i => o.after.toList.any fun e => Region.binds .any e && Nat.beq e.on i)
    | none => true
def closedB (ops : Array Oper) (L : Array Bool) : Bool :=
  (List.range ops.size).all fun j => match ops[j]? with
    | some o => !L.getD j false || o.after.toList.all fun e => !Region.binds .any e || L.getD e.on false
    | none => true

theorem regionMk {id : Nat} {fr fr1 : Fr} {x : Int} {pre all : List Nat} {L1 L2 : Array Bool} {dst : Nat → Nat} {spec : Nat → MkS} {K : (Nat → Addr) → World → Prop} {Kf : Fr → World → Prop} {f : Nat} {a : Act} {w : World}
    (hm : P.follows .mixedOrders = true) (hsel : Region.noSelect ops = true) (hno : Nat.beq (loadBits ops.toList 0) 0 = true) (hsz : Nat.beq ops.size (pre.length + (all.length + f)) = true)
    (hpre : (L1 = L1 ∧ fr1 = fr1) = LPre P n ops (fun L fr' => L = L1 ∧ fr' = fr1) pre (Array.replicate ops.size false) fr)
    (hop : AllL (fun i => MkTriv (spec i) (dst i) x) all = AllL (fun i => MkOk P n ops fr1 x i (dst i) (spec i)) all) (hnd : all.Nodup) (hinj : ∀ i ∈ all, ∀ j ∈ all, dst j = dst i → j = i)
    (hfree : ∀ i ∈ all, L1.getD i true = false) (hrdy : rdyB ops L1 all = true) (hrest : restB ops L1 all = true)
    (h2 : L2.size = L1.size ∧ ∀ j, j < L1.size → L2.getD j false = (if j ∈ all then true else L1.getD j false)) (hc2 : closedB ops L2 = true)
    (hs : St n fr a) (hmk : MkP spec x K all.length all (fun _ => ⟨0, 0, none⟩) w.drew) (hfin : ∀ A w', K A w' → LAny P n ops (fun _ => True) Kf f L2 (frOf dst x A all ++ fr1) w') (hK : ∀ fr a w, Kf fr w → St n fr a → Q .normal a w) :
    (Code.region id ops true).wp P Q a w := by
  refine region_mk (pre := pre) (L1 := L1) (L2 := L2) (dst := dst) (spec := spec) (f := f) hm hsel (needB_none hno) (Nat.eq_of_beq_eq_true hsz) (kcast hpre ⟨rfl, rfl⟩) (fun i hi => ?_) hnd hinj hfree ?_ ?_ h2 ?_ hs hmk hfin hK
  · have h1 : AllL (fun i => MkTriv (spec i) (dst i) x) all := AllL.of (fun i => ⟨rfl, rfl, rfl, rfl, rfl, rfl, rfl, rfl, rfl, rfl⟩) _
    rw [hop] at h1
    exact (h1.mem i hi).op
  · intro i hi o ho e he hb
    have h1 := List.all_eq_true.1 hrdy i hi
    rw [ho] at h1
    simp only at h1
    have h2 := List.all_eq_true.1 h1 e (by simpa using he)
    rw [hb] at h2
    simpa using h2
  · intro j o ho hL hj
    have hlt : j < ops.size := (Array.getElem?_eq_some_iff.1 ho).1
    have h1 := List.all_eq_true.1 hrest j (List.mem_range.2 hlt)
    rw [ho] at h1
    simp only at h1
    rw [hL] at h1
    have hj' : all.contains j = false := by simpa using hj
    rw [hj'] at h1
    simp only [Bool.false_or, Bool.or_eq_true] at h1
    rcases h1 with h1 | h1
    · left
      obtain ⟨e, he, h3⟩ := List.any_eq_true.1 h1
      simp only [Bool.and_eq_true, Bool.not_eq_true'] at h3
      exact ⟨e, by simpa using he, h3.1.1, by simpa using h3.1.2, h3.2⟩
    · right
      intro i hi
      have h3 := List.all_eq_true.1 h1 i hi
      obtain ⟨e, he, h4⟩ := List.any_eq_true.1 h3
      simp only [Bool.and_eq_true] at h4
      exact ⟨e, by simpa using he, h4.1, Nat.eq_of_beq_eq_true h4.2⟩
  · intro j o ho hL e he hb
    have hlt : j < ops.size := (Array.getElem?_eq_some_iff.1 ho).1
    have h1 := List.all_eq_true.1 hc2 j (List.mem_range.2 hlt)
    rw [ho] at h1
    simp only at h1
    rw [hL] at h1
    simp only [Bool.not_true, Bool.false_or] at h1
    have h3 := List.all_eq_true.1 h1 e (by simpa using he)
    rw [hb] at h3
    simpa using h3

theorem primDef {J : Nat → Fr → World → Prop} {k : Nat} {c : Code} {Qs : Exit → Fr → World → Prop} (l : Vars) (F : Tys l → World → Prop) (hJ : ∀ fr w, J k fr w = dec l fr fun x => F x w)
    (hw : ∀ x Q, Serves n Qs Q → ∀ a w, F x w → St n (mkF l x) a → c.wp P Q a w) : ∀ Q, Serves n Qs Q → ∀ fr a w, J k fr w → St n fr a → c.wp P Q a w := by
  intro Q hQ fr a w h hs
  rw [hJ] at h
  obtain ⟨x, hs', hx⟩ := dec.out hs h
  exact hw x Q hQ a w hx hs'

end Go.Lf

/-
  Slices that are made in any order: rows of the call's own.
-/
namespace Go.Lf
open Go Go.RowKit Go.ChangeShapes
set_option linter.unusedVariables false

def mkRow (spec : Nat → MkS) (x : Int) (A : Nat → Addr) (i : Nat) : Asn := rowA (spec i).e 1 ⟨some (A i), x.toNat, x.toNat⟩ x.toNat (List.replicate x.toNat (spec i).z)

theorem MkP.rows {B : Nat} {R : List Asn} {spec : Nat → MkS} {x : Int} {K : (Nat → Addr) → World → Prop} {all : List Nat} {w0 : World} (hnd : all.Nodup) (hsp : ∀ i ∈ all, (spec i).size = 1 ∧ (spec i).z.cells = #[(spec i).z] ∧ (spec i).may x) (hx : x.toNat ≤ maxLen)
    (hK : ∀ A w, Sep B w (all.map (mkRow spec x A) ++ R) → Below B w0 w → K A w) :
    ∀ (k : Nat) (rem done : List Nat) (A : Nat → Addr) (w : World), rem.length = k → (done ++ rem).Perm all → Sep B w (done.map (mkRow spec x A) ++ R) → Below B w0 w → MkP spec x K k rem A w
  | 0, rem, done, A, w, hl, hp, h, hb => by
    have hr : rem = [] := List.length_eq_zero_iff.1 hl
    subst hr
    rw [List.append_nil] at hp
    exact hK A w (h.perm ((hp.map _).append_right R)) hb
  | k + 1, rem, done, A, w, hl, hp, h, hb => by
    intro i hi
    have hnd2 : (done ++ rem).Nodup := hp.nodup_iff.2 hnd
    have hid : i ∉ done := fun hd => (List.nodup_append.1 hnd2).2.2 i hd i hi rfl
    obtain ⟨h1, h2, h3⟩ := hsp i (hp.mem_iff.1 (List.mem_append.2 (.inr hi)))
    refine ⟨h3, ?_⟩
    have hrun : (spec i).run x w = w.alloc (.cells (List.replicate x.toNat (spec i).z).toArray (spec i).e) := by
      unfold MkS.run
      rw [h1, h2, range_cells]
    have hb1 : Below w.heap.size w ((spec i).run x w) := by rw [hrun]; exact below_alloc _ _
    have hrow : Sep B ((spec i).run x w) (rowA (spec i).e 1 ⟨some (newA w), x.toNat, x.toNat⟩ x.toNat (List.replicate x.toNat (spec i).z) :: (done.map (mkRow spec x A) ++ R)) := by
      refine h.row ?_ hb1
      rw [hrun]
      exact row_made (by simp) hx
    have hA : done.map (mkRow spec x fun j => if j = i then newA w else A j) = done.map (mkRow spec x A) := by
      refine List.map_congr_left fun j hj => ?_
      have hne : ¬ j = i := fun e => hid (by rw [← e]; exact hj)
      unfold mkRow
      simp only [if_neg hne]
    refine MkP.rows hnd hsp hx hK k (rem.erase i) (i :: done) _ _ (by rw [List.length_erase_of_mem hi]; omega) ?_ ?_ (hb.trans (hb1.mono h.le))
    · refine List.Perm.trans ?_ hp
      show (i :: (done ++ rem.erase i)).Perm (done ++ rem)
      exact (List.perm_middle.symm).trans ((List.perm_cons_erase hi).symm.append_left done)
    · rw [List.map_cons, hA]
      have e : mkRow spec x (fun j => if j = i then newA w else A j) i = rowA (spec i).e 1 ⟨some (newA w), x.toNat, x.toNat⟩ x.toNat (List.replicate x.toNat (spec i).z) := by unfold mkRow; simp
      rw [e]
      exact hrow

end Go.Lf

/-
  Terms of two arenas that are the same.
-/
namespace Go.Lf
open Go Go.RowKit Go.ChangeShapes
set_option linter.unusedVariables false

inductive Eqv (A B : List Tm) : Nat → Nat → Prop
  | mk {i j : Nat} {t u : Tm} (hi : A[i]? = some t) (hj : B[j]? = some u) (hk : t.kind = u.kind) (hn : t.n = u.n) (hl : t.args.length = u.args.length)
      (h : ∀ (q : Nat) (x y : Int), t.args[q]? = some x → u.args[q]? = some y → Eqv A B x.toNat y.toNat) : Eqv A B i j

/-- what was there is -/
def Ext (A A' : List Tm) : Prop := ∀ (i : Nat) (t : Tm), A[i]? = some t → A'[i]? = some t
theorem Ext.refl (A : List Tm) : Ext A A := fun _ _ h => h
theorem Ext.trans {A B C : List Tm} (h : Ext A B) (k : Ext B C) : Ext A C := fun i t ht => k i t (h i t ht)
theorem Ext.put (A : List Tm) (t : Tm) : Ext A (put A t).1 := fun i u hu => by
  obtain ⟨r, e, _⟩ := put_grow A t
  rw [e, List.getElem?_append_left (List.getElem?_eq_some_iff.1 hu).1]; exact hu
theorem Ext.len {A A' : List Tm} (h : Ext A A') : A.length ≤ A'.length := by
  rcases Nat.lt_or_ge A'.length A.length with h1 | h1
  · have := h A'.length _ (List.getElem?_eq_getElem h1)
    have := (List.getElem?_eq_some_iff.1 this).1
    omega
  · exact h1
theorem Ext.inT {A A' : List Tm} (h : Ext A A') {x : Int} (hx : inT A x) : inT A' x := by
  have := h.len
  unfold Lf.inT at *; omega

theorem Eqv.mono {A B A' B' : List Tm} (hA : Ext A A') (hB : Ext B B') {i j : Nat} (h : Eqv A B i j) : Eqv A' B' i j := by
  induction h with
  | mk hi hj hk hn hl _ ih => exact .mk (hA _ _ hi) (hB _ _ hj) hk hn hl ih

theorem TOk.argsAt {A : List Tm} (h : TOk A) {i : Nat} {t : Tm} (hi : A[i]? = some t) : ∀ x ∈ t.args, 0 ≤ x ∧ x < i := by
  intro x hx
  have hlt := (List.getElem?_eq_some_iff.1 hi).1
  have h5 := (okAt h hlt).2.2.2.2.2.1
  have e : tmAt A (i : Int) = t := by unfold tmAt; rw [Int.toNat_natCast, hi]; rfl
  rw [e] at h5
  exact h5 x hx

theorem Eqv.of_ext {A B : List Tm} (hB : TOk B) (h : Ext B A) : ∀ j, j < B.length → Eqv A B j j := by
  intro j
  induction j using Nat.strongRecOn with
  | _ j ih =>
    intro hj
    have hu := List.getElem?_eq_getElem hj
    refine .mk (h _ _ hu) hu rfl rfl rfl fun q x y hx hy => ?_
    rw [hx] at hy
    obtain rfl := Option.some.inj hy
    have := hB.argsAt hu x (List.mem_of_getElem? hx)
    exact ih x.toNat (by omega) (by omega)

theorem args_eq {a b : List Int} (hl : a.length = b.length) (h : ∀ (q : Nat) (x y : Int), a[q]? = some x → b[q]? = some y → x = y) : a = b := by
  apply List.ext_getElem hl
  intro q h1 h2
  exact h q _ _ (List.getElem?_eq_getElem h1) (List.getElem?_eq_getElem h2)

theorem tm_eq {t u : Tm} (hk : t.kind = u.kind) (hn : t.n = u.n) (ha : t.args = u.args) : t = u := by
  cases t; cases u; simp only at hk hn ha; subst hk hn ha; rfl

theorem Eqv.left {A B : List Tm} (hA : TOk A) {i j : Nat} (h : Eqv A B i j) : ∀ {i' : Nat}, Eqv A B i' j → i = i' := by
  induction h with
  | mk hi hj hk hn hl _ ih =>
    rename_i i j t u h
    intro i' h'
    cases h' with
    | mk hi' hj' hk' hn' hl' h' =>
      rename_i t' u'
      rw [hj] at hj'
      obtain rfl := Option.some.inj hj'
      have hargs : t.args = t'.args := by
        refine args_eq (by omega) fun q x y hx hy => ?_
        have hq : q < u.args.length := by have := (List.getElem?_eq_some_iff.1 hx).1; omega
        have e := ih q x _ hx (List.getElem?_eq_getElem hq) (h' q y _ hy (List.getElem?_eq_getElem hq))
        have h1 := hA.argsAt hi x (List.mem_of_getElem? hx)
        have h2 := hA.argsAt hi' y (List.mem_of_getElem? hy)
        omega
      have : t = t' := tm_eq (by rw [hk, hk']) (by rw [hn, hn']) hargs
      subst this
      exact hA.once _ _ _ hi hi'

theorem Eqv.right {A B : List Tm} (hB : TOk B) {i j : Nat} (h : Eqv A B i j) : ∀ {j' : Nat}, Eqv A B i j' → j = j' := by
  induction h with
  | mk hi hj hk hn hl _ ih =>
    rename_i i j t u h
    intro j' h'
    cases h' with
    | mk hi' hj' hk' hn' hl' h' =>
      rename_i t' u'
      rw [hi] at hi'
      obtain rfl := Option.some.inj hi'
      have hargs : u.args = u'.args := by
        refine args_eq (by omega) fun q x y hx hy => ?_
        have hq : q < t.args.length := by have := (List.getElem?_eq_some_iff.1 hx).1; omega
        have e := ih q _ x (List.getElem?_eq_getElem hq) hx (h' q _ y (List.getElem?_eq_getElem hq) hy)
        have h1 := hB.argsAt hj x (List.mem_of_getElem? hx)
        have h2 := hB.argsAt hj' y (List.mem_of_getElem? hy)
        omega
      have : u = u' := tm_eq (by rw [← hk, ← hk']) (by rw [← hn, ← hn']) hargs
      subst this
      exact hB.once _ _ _ hj hj'

theorem Eqv.lt {A B : List Tm} {i j : Nat} (h : Eqv A B i j) : i < A.length ∧ j < B.length := by
  cases h with
  | mk hi hj _ _ _ _ => exact ⟨(List.getElem?_eq_some_iff.1 hi).1, (List.getElem?_eq_some_iff.1 hj).1⟩

/-- a term's place in one arena, and in another; -1: it is none -/
def Rel (A B : List Tm) (k x : Int) : Prop := (inT B x → 0 ≤ k ∧ Eqv A B k.toNat x.toNat) ∧ (¬ inT B x → k = -1)

theorem Rel.mono {A B A' : List Tm} (hA : Ext A A') {k x : Int} (h : Rel A B k x) : Rel A' B k x :=
  ⟨fun hx => ⟨(h.1 hx).1, (h.1 hx).2.mono hA (Ext.refl _)⟩, h.2⟩
theorem Rel.inT {A B : List Tm} {k x : Int} (h : Rel A B k x) : inT A k ↔ inT B x := by
  constructor
  · intro hk
    refine Classical.byContradiction fun hx => ?_
    have := h.2 hx
    unfold Lf.inT at hk; omega
  · intro hx
    obtain ⟨h1, h2⟩ := h.1 hx
    have := h2.lt.1
    unfold Lf.inT; omega
theorem Rel.eq {A B : List Tm} (hA : TOk A) {k k' x : Int} (h : Rel A B k x) (h' : Rel A B k' x) : k = k' := by
  by_cases hx : Lf.inT B x
  · obtain ⟨h1, h2⟩ := h.1 hx
    obtain ⟨h3, h4⟩ := h'.1 hx
    have := h2.left hA h4
    omega
  · rw [h.2 hx, h'.2 hx]
/-- where nothing is but what was there -/
theorem Rel.same {A B : List Tm} (hA : TOk A) (hB : TOk B) (h : Ext B A) {k x : Int} (hr : Rel A B k x) : k = if Lf.inT B x then x else -1 := by
  by_cases hx : Lf.inT B x
  · rw [if_pos hx]
    obtain ⟨h1, h2⟩ := hr.1 hx
    unfold Lf.inT at hx
    have := h2.left hA (Eqv.of_ext hB h x.toNat (by omega))
    omega
  · rw [if_neg hx]; exact hr.2 hx

/-- the same term put into both -/
theorem Eqv.put {A B : List Tm} {t u : Tm} (hk : t.kind = u.kind) (hn : t.n = u.n) (hl : t.args.length = u.args.length) (ha : ∀ (q : Nat) (x y : Int), t.args[q]? = some x → u.args[q]? = some y → Eqv A B x.toNat y.toNat)
    (hA : errOf A t = 0) (hB : errOf B u = 0) (hsA : A.length < 1048576) (hsB : B.length < 1048576) :
    ∃ i j : Nat, (put A t).2.1 = (i : Int) ∧ (put A t).2.2 = 0 ∧ (put B u).2.1 = (j : Int) ∧ (put B u).2.2 = 0 ∧ Eqv (put A t).1 (put B u).1 i j := by
  obtain ⟨i, h1, h2, h3⟩ := putAt hA hsA
  obtain ⟨j, g1, g2, g3⟩ := putAt hB hsB
  exact ⟨i, j, h1, h2, g1, g2, .mk h3 g3 hk hn hl fun q x y hx hy => (ha q x y hx hy).mono (Ext.put _ _) (Ext.put _ _)⟩

/-- what a pair keeps -/
structure PairOk (A B : List Tm) (M : List Nat) : Prop where
  len : M.length ≤ B.length
  at_ : ∀ n x, M[n]? = some x → Eqv A B x n

theorem PairOk.mono {A B A' B' : List Tm} {M : List Nat} (h : PairOk A B M) (hA : Ext A A') (hB : Ext B B') : PairOk A' B' M :=
  ⟨Nat.le_trans h.len hB.len, fun n x hx => (h.at_ n x hx).mono hA hB⟩

/-- the next one of a pair -/
theorem PairOk.next {A B : List Tm} {M : List Nat} (hA : TOk A) (hB : TOk B) (h : PairOk A B M) (hM : M.length < B.length) (hs : A.length < 1048576) {u : Tm} (hu : B[M.length]? = some u) {t : Tm} (ht : t = ⟨u.kind, u.n, u.args.map fun y => (((M[y.toNat]?).getD 0 : Nat) : Int)⟩) :
    ∃ x : Nat, (put A t).2.1 = (x : Int) ∧ (put A t).2.2 = 0 ∧ PairOk (put A t).1 B (M ++ [x]) ∧ (Ext B A → (put A t).1 = A) := by
  have hargs := hB.argsAt hu
  have hMat : ∀ y ∈ u.args, ∃ z, M[y.toNat]? = some z ∧ Eqv A B z y.toNat := by
    intro y hy
    have := hargs y hy
    have hlt : y.toNat < M.length := by omega
    exact ⟨M[y.toNat], List.getElem?_eq_getElem hlt, h.at_ _ _ (List.getElem?_eq_getElem hlt)⟩
  obtain ⟨k1, k2, k3, k4, k5, k6, k7⟩ := errZ (hB.good _ _ hu)
  have tk : t.kind = u.kind := by rw [ht]
  have tn : t.n = u.n := by rw [ht]
  have ta : t.args = u.args.map fun y => (((M[y.toNat]?).getD 0 : Nat) : Int) := by rw [ht]
  have tl : t.args.length = u.args.length := by rw [ta, List.length_map]
  have tq : ∀ (q : Nat) (x y : Int), t.args[q]? = some x → u.args[q]? = some y → Eqv A B x.toNat y.toNat := by
    intro q x y hx hy
    rw [ta, List.getElem?_map, hy] at hx
    obtain ⟨z, hz, he⟩ := hMat y (List.mem_of_getElem? hy)
    simp only [Option.map_some, hz, Option.getD_some, Option.some.injEq] at hx
    rw [← hx, Int.toNat_natCast]
    exact he
  have he : errOf A t = 0 := by
    refine errOk (by rw [tk]; exact ⟨k1, k2⟩) (by rw [tn]; exact k6) ?_ (by rw [tk, tl]; exact k3) (by rw [tk, tl]; exact k4) ?_
    · rw [tk, tn]
      rcases Int.lt_or_le 0 u.n with hp | hp
      · exact .inl (k7 hp)
      · exact .inr (by omega)
    · intro x hx
      rw [ta] at hx
      obtain ⟨y, hy, rfl⟩ := List.mem_map.1 hx
      obtain ⟨z, hz, he⟩ := hMat y hy
      have := he.lt.1
      rw [hz, Option.getD_some]
      unfold Lf.inT; omega
  obtain ⟨x, g1, g2, g3⟩ := putAt he hs
  have hnew : Eqv (Lf.put A t).1 B x M.length := .mk g3 hu tk tn tl fun q x y hx hy => (tq q x y hx hy).mono (Ext.put _ _) (Ext.refl _)
  refine ⟨x, g1, g2, ⟨by simp; omega, fun n y hy => ?_⟩, fun hext => ?_⟩
  · rw [List.getElem?_append] at hy
    split at hy
    · exact (h.at_ n y hy).mono (Ext.put _ _) (Ext.refl _)
    · rename_i hge
      have := (List.getElem?_eq_some_iff.1 hy).1
      simp at this
      have e : n = M.length := by omega
      subst e
      simp at hy
      subst hy
      exact hnew
  · have heq : t = u := by
      refine tm_eq tk tn (args_eq tl fun q x y hx hy => ?_)
      have e1 := tq q x y hx hy
      have h2 := hargs y (List.mem_of_getElem? hy)
      have e2 := e1.left hA (Eqv.of_ext hB hext y.toNat (by omega))
      have h3 : 0 ≤ x := by
        rw [ta, List.getElem?_map, hy] at hx
        simp at hx
        omega
      omega
    rw [heq, put_there hA (hext _ _ hu) (heq ▸ he)]

end Go.Lf

/-
  One element of a row is deleted: what is behind it moved on in place, what is over cleared.
-/
namespace Go.Lf
open Go Go.RowKit Go.ChangeShapes
set_option linter.unusedVariables false

theorem zero_one (z : Array Value) : (Builtin.zeroCells z 1).toList = z.toList := by
  unfold Builtin.zeroCells
  apply List.ext_getElem
  · simp
  · intro x h1 h2
    have hx : x < z.size := by simpa using h2
    simp [Nat.mod_eq_of_lt hx, hx]

theorem add_row (g n : Nat) : (⟨g, 0, none⟩ : Addr).add n = ⟨g, n, none⟩ := by unfold Addr.add; split <;> simp_all

theorem Sep.deleteAt {P : Program} {t ty ty2 e : TypeId} {i : TypeInfo} {z : Value} {size : Nat} (ht : P.underlying t = some (.slice e)) (hi : P.info? e = some i) (hz : i.zero = some z) (hsize : i.size = size)
    (hzs : z.cells.size = size) (hz1 : ∀ u ∈ z.cells.toList, u.oneCell' = true) (hsz : 0 < size) {B : Nat} {w : World} {l : List Asn} (k : Nat) {s : Sl} {n : Nat} {vs : List Value} (hk : l[k]? = some (rowA e size s n vs)) (h : Sep B w l) (ho : ∀ u ∈ vs, u.oneCell' = true) {j : Nat} (hj : j < n) :
    ∃ q, s.a = some q ∧ s.len = n ∧ n ≤ s.cap ∧ ∀ (a : Addr) (c c2 : Nat), (n - (j + 1) = 0 ∨ a = q.add ((j + 1) * size)) → ∃ w1 w2,
      (builtin .append #[t, t] ty #[] #[.slice (some q) j s.cap, .slice (some a) (n - (j + 1)) c]).run P w = .ok (.value (.slice (some q) (n - 1) s.cap)) w1 ∧
      (builtin .clear #[t] ty2 #[] #[.slice (some (q.add ((n - 1) * size))) 1 c2]).run P w1 = .ok (.value (.tuple #[])) w2 ∧
      Sep B w2 (l.set k (rowA e size ⟨s.a, n - 1, s.cap⟩ (n - 1) (vs.take (j * size) ++ vs.drop ((j + 1) * size)))) ∧ Below B w w2 := by
  obtain ⟨F, hr, hF, back⟩ := h.at k hk
  obtain ⟨hvl, hown⟩ := hr.1
  rcases hown with ⟨h1, h0⟩ | ⟨g, cap, cur, h1, _, hg, hnc, hcm, hcs, htake⟩
  · omega
  simp only [Value.slice.injEq] at h1
  obtain ⟨ha, hl, hc⟩ := h1
  subst hsize
  refine ⟨⟨g, 0, none⟩, ha, hl, by omega, fun a c c2 hac => ?_⟩
  have hFg : F g := hr.2 _ ha
  have hgl : g < w.heap.size := (Array.getElem?_eq_some_iff.1 hg).1
  -- sizes
  have hjs : (j + 1) * i.size ≤ n * i.size := Nat.mul_le_mul_right _ (by omega)
  have hj1 : (j + 1) * i.size = j * i.size + i.size := by rw [Nat.add_mul, Nat.one_mul]
  have hnm : (n - 1) * i.size + i.size = n * i.size := by
    have : n * i.size = (n - 1 + 1) * i.size := by rw [show n - 1 + 1 = n by omega]
    rw [this, Nat.add_mul, Nat.one_mul]
  have hncs : n * i.size ≤ cap * i.size := Nat.mul_le_mul_right _ hnc
  have hmm : (n - (j + 1)) * i.size + (j + 1) * i.size = n * i.size := by rw [← Nat.add_mul, show n - (j + 1) + (j + 1) = n by omega]
  -- what is moved
  obtain ⟨news, hnews⟩ : ∃ news, news = vs.drop ((j + 1) * i.size) := ⟨_, rfl⟩
  have hnl : news.length = (n - (j + 1)) * i.size := by rw [hnews, List.length_drop, hvl]; omega
  have hread : ∀ (x : Nat) (u : Value), news[x]? = some u → w.cell? (a.add x) = some u := by
    intro x u hu
    rcases hac with h0 | rfl
    · rw [h0, Nat.zero_mul] at hnl
      rw [List.eq_nil_of_length_eq_zero hnl] at hu
      simp at hu
    · rw [hnews, List.getElem?_drop] at hu
      have hadd : ((⟨g, 0, none⟩ : Addr).add ((j + 1) * i.size)).add x = ⟨g, (j + 1) * i.size + x, none⟩ := by
        rw [add_add, add_row]
      rw [hadd, cell_of_row w g _ cur e (0, 0) hg]
      rw [← htake, List.getElem?_take] at hu
      split at hu
      · simpa using hu
      · cases hu
  have hone : ∀ u ∈ news, u.oneCell' = true := fun u hu => ho u (by rw [hnews] at hu; exact List.mem_of_mem_drop hu)
  have hfit : j * i.size + news.length ≤ cur.size := by rw [hcs, hnl]; omega
  have run1 := run_append_room (P := P) w t ty e i ht hi g j cap cur hg a (n - (j + 1)) c news hnl hread hone (by omega) hfit
  rw [show j + (n - (j + 1)) = n - 1 by omega] at run1
  obtain ⟨A1, hA1⟩ : ∃ A1 : Array Value, A1 = (cur.toList.take (j * i.size) ++ news ++ cur.toList.drop (j * i.size + news.length)).toArray := ⟨_, rfl⟩
  rw [← hA1] at run1
  have hA1s : A1.size = cap * i.size := by
    rw [hA1]
    simp only [List.size_toArray, List.length_append, List.length_take, List.length_drop, Array.length_toList, hcs]
    omega
  have hjl : j * i.size + news.length = (n - 1) * i.size := by rw [hnl]; omega
  have hA1t : A1.toList.take ((n - 1) * i.size) = vs.take (j * i.size) ++ news := by
    rw [hA1]
    simp only
    rw [List.take_left' (by simp only [List.length_append, List.length_take, Array.length_toList, hcs]; omega)]
    congr 1
    rw [← htake, List.take_take, Nat.min_eq_left (by omega)]
  have hg1 : (w.setRow g A1).heap[g]? = some (.cells A1 e (0, 0)) := setRow_heap w g cur _ e _ hg
  obtain ⟨w1, hw1⟩ : ∃ w1, w1 = w.setRow g A1 := ⟨_, rfl⟩
  rw [← hw1] at run1 hg1
  have hzl : z.cells.toList.length = i.size := by rw [Array.length_toList, hzs]
  have hst := run_storeCells_at P g ((n - 1) * i.size) e z.cells.toList 0 A1 w1 hg1 (by rw [hzl, hA1s]; omega) hz1
  obtain ⟨A2, hA2⟩ : ∃ A2 : Array Value, A2 = (A1.toList.take ((n - 1) * i.size + 0) ++ z.cells.toList ++ A1.toList.drop ((n - 1) * i.size + 0 + z.cells.toList.length)).toArray := ⟨_, rfl⟩
  rw [← hA2] at hst
  have hA2s : A2.size = cap * i.size := by
    rw [hA2]
    simp only [List.size_toArray, List.length_append, List.length_take, List.length_drop, Array.length_toList, hA1s, hzs]
    omega
  have hA2t : A2.toList.take ((n - 1) * i.size) = vs.take (j * i.size) ++ news := by
    rw [hA2, ← hA1t]
    simp only [Nat.add_zero, List.append_assoc]
    rw [List.take_left' (by simp only [List.length_take, Array.length_toList, hA1s]; omega)]
  have hadd2 : (⟨g, 0, none⟩ : Addr).add ((n - 1) * i.size) = ⟨g, (n - 1) * i.size, none⟩ := add_row _ _
  refine ⟨w1, w1.setRow g A2, ?_, ?_, ?_, ?_⟩
  · rw [← hc] at run1
    simp [builtin, run1]
  · rw [hadd2]
    have hzv : (zeroValue e).run P w1 = .ok z w1 := by
      simp [zeroValue, typeInfo, hi, hz]
    have hcl : (Builtin.clear_ #[t] ty2 #[.slice (some ⟨g, (n - 1) * i.size, none⟩) 1 c2]).run P w1 = .ok (.tuple #[]) (w1.setRow g A2) := by
      simp [Builtin.clear_, run_underlying ht, hzv, zero_one, hst]
    simp [builtin, hcl]
  all_goals
    have hgr : w.grownBy (w1.setRow g A2) (some g) := by
      rw [hw1]
      exact ⟨rfl, rfl, rfl, by simp, fun k _ hk => by
        have hne : k ≠ g := fun e => hk (by rw [e])
        rw [setRow_other _ g k _ hne, setRow_other _ g k _ hne]⟩
    have hchg : Chg F w (w1.setRow g A2) := Chg.of_grown hgr fun x hx => by
      obtain rfl := Option.some.inj hx
      exact hFg
  · refine back (F' := F) ⟨⟨?_, .inr ⟨g, cap, A2, ?_, Nat.zero_le _, setRow_heap w1 g A1 _ e _ hg1, by omega, hcm, hA2s, ?_⟩⟩, fun q hq => hr.2 q hq⟩ hchg fun x hx => ⟨.inl hx, ?_⟩
    · rw [List.length_append, ← hnews, List.length_take, hvl]; omega
    · rw [ha, hc]
    · rw [hA2t, hnews]
    · exact Nat.lt_of_lt_of_le (hF x hx).2 hchg.size
  · exact hchg.below (fun x hx => (hF x hx).1) h.le

end Go.Lf
