/-
  Terms: the law of an arena (what a term is, what is put, the keys), and maps from texts to numbers.
-/
import Derived.Test.YtpihglmgkfecbaaDoorLiftOwn
import Derived.Lib.AppendIntMem
import Derived.Lib.ItoaLen
import Derived.Laws.IdiomStrings
import Derived.MapKept
namespace Go.Lf
open Go Go.RowKit Go.ChangeShapes
set_option linter.unusedVariables false

theorem inc {k : Nat} (h : k < 9223372036854775807) : IntKind.i64.wrap ((k : Int) + 1) = ((k + 1 : Nat) : Int) := by rw [w64 (by omega)]; omega

theorem drop_at {α : Type} {l : List α} {k : Nat} {x : α} (h : l[k]? = some x) : l.drop k = x :: l.drop (k + 1) := by
  obtain ⟨hlt, he⟩ := List.getElem?_eq_some_iff.1 h
  rw [List.drop_eq_getElem_cons hlt, he]

/-! numerals -/

def numOf (l : List UInt8) : Nat := l.foldl (fun a c => a * 10 + (c.toNat - 48)) 0

theorem dig_ok {d : Nat} (h : d < 10) : (UInt8.ofNat (48 + d)).toNat = 48 + d := by
  rw [UInt8.toNat_ofNat']; omega

theorem dec_num (u : Nat) : numOf (Lib.decDigits u) = u := by
  induction u using Nat.strongRecOn with
  | _ u ih =>
    by_cases h : u < 10
    · rw [Lib.decDigits, dif_pos h]
      simp only [numOf, List.foldl_cons, List.foldl_nil]
      rw [dig_ok h]; omega
    · rw [Lib.decDigits, dif_neg h]
      have := ih (u / 10) (by omega)
      unfold numOf at this ⊢
      rw [List.foldl_append, this]
      simp only [List.foldl_cons, List.foldl_nil]
      rw [dig_ok (by omega)]; omega

theorem dec_dig (u : Nat) : ∀ c ∈ Lib.decDigits u, 48 ≤ c.toNat := by
  induction u using Nat.strongRecOn with
  | _ u ih =>
    intro c hc
    by_cases h : u < 10
    · rw [Lib.decDigits, dif_pos h, List.mem_singleton] at hc
      subst hc; rw [dig_ok h]; omega
    · rw [Lib.decDigits, dif_neg h, List.mem_append, List.mem_singleton] at hc
      rcases hc with hc | rfl
      · exact ih (u / 10) (by omega) c hc
      · rw [dig_ok (by omega)]; omega

theorem dec_inj {u v : Nat} (h : Lib.decDigits u = Lib.decDigits v) : u = v := by rw [← dec_num u, h, dec_num v]

theorem itoa_big (n : Int) : ∀ c ∈ Lib.itoa n, c ≠ 32 := by
  intro c hc he
  subst he
  unfold Lib.itoa at hc
  split at hc
  · rcases List.mem_cons.1 hc with hc | hc
    · exact absurd hc (by decide)
    · exact absurd (dec_dig _ _ hc) (by decide)
  · exact absurd (dec_dig _ _ hc) (by decide)

theorem itoa_inj {m n : Int} (h : Lib.itoa m = Lib.itoa n) : m = n := by
  have no : ∀ (l : List UInt8) (u : Nat), Lib.decDigits u = 45 :: l → False := fun l u e => by
    have := dec_dig u 45 (by rw [e]; simp)
    exact absurd this (by decide)
  unfold Lib.itoa at h
  split at h <;> split at h
  · have := dec_inj (List.cons.inj h).2; omega
  · exact absurd h.symm (fun e => no _ _ e)
  · exact absurd h (fun e => no _ _ e)
  · have := dec_inj h; omega

/-- numbers, with a blank behind each -/
def textOf (l : List Int) : List UInt8 := l.flatMap fun x => Lib.itoa x ++ [32]

theorem split_blank : ∀ (a b : List UInt8) {r s : List UInt8}, (∀ c ∈ a, c ≠ 32) → (∀ c ∈ b, c ≠ 32) → a ++ 32 :: r = b ++ 32 :: s → a = b ∧ r = s
  | [], [], r, s, _, _, h => ⟨rfl, (List.cons.inj h).2⟩
  | [], y :: b, r, s, _, hb, h => absurd (List.cons.inj h).1.symm (hb y (by simp))
  | x :: a, [], r, s, ha, _, h => absurd (List.cons.inj h).1 (ha x (by simp))
  | x :: a, y :: b, r, s, ha, hb, h => by
    obtain ⟨h1, h2⟩ := List.cons.inj h
    obtain ⟨h3, h4⟩ := split_blank a b (fun c hc => ha c (by simp [hc])) (fun c hc => hb c (by simp [hc])) h2
    exact ⟨by rw [h1, h3], h4⟩

theorem text_cons (x : Int) (l : List Int) : textOf (x :: l) = Lib.itoa x ++ 32 :: textOf l := by simp [textOf]

theorem text_inj : ∀ {l m : List Int}, textOf l = textOf m → l = m
  | [], [], _ => rfl
  | [], y :: m, h => by rw [text_cons] at h; simp [textOf] at h
  | x :: l, [], h => by rw [text_cons] at h; simp [textOf] at h
  | x :: l, y :: m, h => by
    rw [text_cons, text_cons] at h
    obtain ⟨h1, h2⟩ := split_blank _ _ (itoa_big x) (itoa_big y) h
    rw [itoa_inj h1, text_inj h2]

/-! terms -/

structure Tm where
  kind : Int
  n : Int
  args : List Int
deriving DecidableEq

def Tm.key (t : Tm) : ByteArray := ⟨(textOf (t.kind :: t.n :: t.args)).toArray⟩
theorem Tm.key_inj {t u : Tm} (h : t.key = u.key) : t = u := by
  have h1 : (textOf (t.kind :: t.n :: t.args)).toArray = (textOf (u.kind :: u.n :: u.args)).toArray := congrArg ByteArray.data h
  have h2 := text_inj (List.toArray_inj h1)
  cases t; cases u
  simp only [List.cons.injEq] at h2
  obtain ⟨rfl, rfl, rfl⟩ := h2
  rfl

def least (kind : Int) : Nat := if kind = 1 ∨ kind = 2 then 0 else if kind = 4 ∨ kind = 5 then 1 else if kind = 6 ∨ kind = 8 then 1 else if kind = 7 then 2 else 0
def mostOf (kind : Int) : Nat := if kind = 1 ∨ kind = 2 then 0 else if kind = 4 ∨ kind = 5 then 1 else 400
def numbered (kind : Int) : Prop := kind = 1 ∨ kind = 2 ∨ kind = 4
instance (kind : Int) : Decidable (numbered kind) := by unfold numbered; infer_instance

def inT (T : List Tm) (x : Int) : Prop := 0 ≤ x ∧ x < T.length
instance (T : List Tm) (x : Int) : Decidable (inT T x) := by unfold inT; infer_instance

/-- what is said of a term that is told to an arena of the terms T (0: it may be) -/
def errOf (T : List Tm) (t : Tm) : Int :=
  if ¬ (1 ≤ t.kind ∧ t.kind ≤ 9) then 6 else if t.n < 0 ∨ 0 < t.n ∧ ¬ numbered t.kind then 1 else if t.args.length < least t.kind ∨ mostOf t.kind < t.args.length then 2
  else if ¬ ∀ x ∈ t.args, inT T x then 8 else 0

def place (T : List Tm) (t : Tm) : Option Nat := T.findIdx? fun u => decide (u = t)

def put (T : List Tm) (t : Tm) : List Tm × Int × Int :=
  if errOf T t ≠ 0 then (T, 0, errOf T t) else
  match place T t with
  | some i => (T, (i : Int), 0)
  | none => if 1048576 ≤ T.length then (T, 0, 7) else (T ++ [t], (T.length : Int), 0)

/-- the arenas that come of putting -/
structure TOk (T : List Tm) : Prop where
  few : T.length ≤ 1048576
  good : ∀ (i : Nat) (t : Tm), T[i]? = some t → errOf (T.take i) t = 0
  once : ∀ (i j : Nat) (t : Tm), T[i]? = some t → T[j]? = some t → i = j

theorem TOk.nil : TOk [] := ⟨by simp, by simp, by simp⟩

theorem place_some {T : List Tm} {t : Tm} {i : Nat} (h : place T t = some i) : T[i]? = some t := by
  unfold place at h
  rw [List.findIdx?_eq_some_iff_getElem] at h
  obtain ⟨h1, h2, _⟩ := h
  simp at h2
  rw [List.getElem?_eq_getElem h1, h2]
theorem place_none {T : List Tm} {t : Tm} (h : place T t = none) : ∀ u ∈ T, u ≠ t := by
  unfold place at h
  rw [List.findIdx?_eq_none_iff] at h
  intro u hu
  simpa using h u hu
theorem TOk.place {T : List Tm} (h : TOk T) {t : Tm} {i : Nat} (hi : T[i]? = some t) : place T t = some i := by
  cases hp : Go.Lf.place T t with
  | none => exact absurd rfl (place_none hp t (List.mem_of_getElem? hi))
  | some j => rw [h.once j i t (place_some hp) hi]

theorem TOk.put {T : List Tm} (h : TOk T) (t : Tm) : TOk (put T t).1 := by
  unfold Go.Lf.put
  split
  · exact h
  · rename_i he
    cases hp : Go.Lf.place T t with
    | some i => exact h
    | none =>
      by_cases hf : 1048576 ≤ T.length
      · rw [if_pos hf]; exact h
      rw [if_neg hf]
      have hn := place_none hp
      refine ⟨by simp; omega, fun i u hu => ?_, fun i j u hi hj => ?_⟩
      · rw [List.getElem?_append] at hu
        split at hu
        · rename_i hlt
          rw [List.take_append_of_le_length (by omega)]
          exact h.good i u hu
        · rename_i hge
          have hi : i = T.length := by
            have := (List.getElem?_eq_some_iff.1 hu).1
            simp at this; omega
          subst hi
          simp at hu
          subst hu
          rw [List.take_append_of_le_length (Nat.le_refl _), List.take_length]
          exact Decidable.not_not.1 he
      · rw [List.getElem?_append] at hi hj
        split at hi <;> split at hj
        · exact h.once i j u hi hj
        · have := (List.getElem?_eq_some_iff.1 hj).1
          rw [List.length_singleton] at this
          rw [show j - T.length = 0 by omega] at hj
          simp at hj
          subst hj
          exact absurd rfl (hn _ (List.mem_of_getElem? hi))
        · have := (List.getElem?_eq_some_iff.1 hi).1
          rw [List.length_singleton] at this
          rw [show i - T.length = 0 by omega] at hi
          simp at hi
          subst hi
          exact absurd rfl (hn _ (List.mem_of_getElem? hj))
        · have h1 := (List.getElem?_eq_some_iff.1 hi).1
          have h2 := (List.getElem?_eq_some_iff.1 hj).1
          simp at h1 h2; omega

/-! a map from texts to their places -/

def entsFrom : Nat → List ByteArray → List MapEntry
  | _, [] => []
  | i, k :: r => ⟨.string k, .int .i64 (i : Int), i⟩ :: entsFrom (i + 1) r

theorem entsFrom_app : ∀ (l m : List ByteArray) (i : Nat), entsFrom i (l ++ m) = entsFrom i l ++ entsFrom (i + l.length) m
  | [], m, i => rfl
  | k :: l, m, i => by
    simp only [List.cons_append, entsFrom, List.length_cons]
    rw [entsFrom_app l m (i + 1), show i + 1 + l.length = i + (l.length + 1) by omega]

theorem bytes_refl (a : ByteArray) : (a == a) = true := by rw [beq_toListBytes]; simp
theorem bytes_ne {a b : ByteArray} (h : a ≠ b) : (a == b) = false := by
  rw [beq_toListBytes]
  simp only [beq_eq_false_iff_ne, ne_eq]
  intro e
  rw [ByteArray.toList_eq, ByteArray.toList_eq] at e
  exact h (Go.WideShapes.bytes_inj e)

theorem findNow_ents (s : ByteArray) : ∀ (ks : List ByteArray) (i j : Nat), Instr.findNow .string (.string s) (entsFrom i ks) j =
    some ((ks.findIdx? fun k => decide (k = s)).map fun n => (j + n, Value.int .i64 ((i + n : Nat) : Int)))
  | [], i, j => rfl
  | k :: ks, i, j => by
    have e1 : Instr.sameNow .string (.string s) (.string k) = some (s == k) := rfl
    unfold entsFrom Instr.findNow
    simp only [e1]
    rw [List.findIdx?_cons]
    by_cases hk : k = s
    · subst hk
      rw [bytes_refl]; simp
    · rw [bytes_ne fun e => hk e.symm, if_neg (by simpa using hk)]
      simp only
      rw [findNow_ents s ks (i + 1) (j + 1)]
      congr 1
      cases ks.findIdx? fun k => decide (k = s) with
      | none => rfl
      | some n =>
        simp only [Option.map_some, Option.some.injEq, Prod.mk.injEq, Value.int.injEq, true_and]
        omega

def mapA (b : Nat) (ks : List ByteArray) : Asn where
  on F w := F b ∧ w.heap[b]? = some (.map (entsFrom 0 ks).toArray ks.length)
  loc := fun ⟨h1, h2⟩ h => ⟨h1, by rw [h b h1]; exact h2⟩
  grow := fun ⟨h1, h2⟩ h => ⟨h b h1, h2⟩

theorem Sep.mapNew {B : Nat} {w : World} {R : List Asn} (h : Sep B w R) : Sep B (w.alloc (.map #[] 0)) (mapA w.heap.size [] :: R) ∧ Below B w (w.alloc (.map #[] 0)) := by
  have hb := below_alloc w (.map #[] 0)
  exact ⟨h.new (F := fun i => i = w.heap.size) ⟨rfl, (MapKept.heap_alloc w _).1⟩ (fun i hi => by subst hi; rw [size_alloc]; omega) hb, hb.mono h.le⟩

section
variable {P : Program} {T k e : TypeId} (ht : P.underlying T = some (.map k e)) (hk : P.underlying k = some .string)
include ht hk
theorem look_map {w : World} {b : Nat} {ks : List ByteArray} (hz : (zeroValue e).run P w = .ok (.int .i64 0) w) (h : w.heap[b]? = some (.map (entsFrom 0 ks).toArray ks.length)) (s : ByteArray) :
    (do pure (.value (← Instr.lookup T (.map (some b)) (.string s) true)) : Sem Next).run P w = .ok (.value (.tuple #[.int .i64 (match ks.findIdx? fun k => decide (k = s) with | some n => (n : Int) | none => 0), .bool (ks.findIdx? fun k => decide (k = s)).isSome])) w := by
  have hf : (Instr.findKey k (.string s) (entsFrom 0 ks)).run P w = .ok ((ks.findIdx? fun k => decide (k = s)).map fun n => (0 + n, Value.int .i64 ((0 + n : Nat) : Int))) w := by
    unfold Instr.findKey
    simp [run_underlying hk, findNow_ents, Result.andThen]
  have hc : ∀ em, (Instr.checkKey em 10000 k (.string s)).run P w = .ok () w := fun em => by
    unfold Instr.checkKey
    simp [run_underlying hk, Result.andThen]
  cases hj : ks.findIdx? fun k => decide (k = s) with
  | none =>
    rw [hj] at hf
    simp only [Option.map_none] at hf
    simp [Instr.lookup, run_underlying ht, MapKept.run_getObj_map h, hc, hf, hz, Result.andThen]
  | some n =>
    rw [hj] at hf
    simp only [Option.map_some] at hf
    simp [Instr.lookup, run_underlying ht, MapKept.run_getObj_map h, hc, hf, Result.andThen]

theorem store_map {w : World} {b : Nat} {ks : List ByteArray} (h : w.heap[b]? = some (.map (entsFrom 0 ks).toArray ks.length)) {s : ByteArray} (hs : ks.findIdx? (fun k => decide (k = s)) = none) :
    (do Instr.mapUpdate T (.map (some b)) (.string s) (.int .i64 ((ks.length : Nat) : Int)); pure .skip : Sem Next).run P w = .ok .skip (ChangeMaps.setBlock w b (.map (entsFrom 0 (ks ++ [s])).toArray (ks ++ [s]).length)) := by
  have hf : (Instr.findKey k (.string s) (entsFrom 0 ks)).run P w = .ok none w := by
    unfold Instr.findKey
    simp [run_underlying hk, findNow_ents, hs, Result.andThen]
  have hc : (Instr.checkKey false 10000 k (.string s)).run P w = .ok () w := by
    unfold Instr.checkKey
    simp [run_underlying hk, Result.andThen]
  have he : (entsFrom 0 (ks ++ [s])).toArray = (entsFrom 0 ks).toArray.push ⟨.string s, .int .i64 ((ks.length : Nat) : Int), ks.length⟩ := by
    rw [entsFrom_app]; simp [entsFrom]
  rw [he]
  simp [Instr.mapUpdate, run_underlying ht, MapKept.run_getObj_map h, hc, hf, MapKept.run_setObj_map _ h, Result.andThen, ChangeMaps.setBlock]
end

theorem Sep.mapStore {B : Nat} {w : World} {l : List Asn} (k : Nat) {b : Nat} {ks : List ByteArray} (hk : l[k]? = some (mapA b ks)) (h : Sep B w l) (ks' : List ByteArray) :
    Sep B (ChangeMaps.setBlock w b (.map (entsFrom 0 ks').toArray ks'.length)) (l.set k (mapA b ks')) ∧ Below B w (ChangeMaps.setBlock w b (.map (entsFrom 0 ks').toArray ks'.length)) := by
  obtain ⟨F, ⟨h1, h2⟩, hF, back⟩ := h.at k hk
  have hg : w.grownBy (ChangeMaps.setBlock w b (.map (entsFrom 0 ks').toArray ks'.length)) (some b) :=
    ⟨rfl, rfl, rfl, by simp [ChangeMaps.setBlock], fun i _ hi => ChangeMaps.heap_setBlock_other h2 _ (fun e => hi (by rw [e]))⟩
  have hc : Chg F w (ChangeMaps.setBlock w b (.map (entsFrom 0 ks').toArray ks'.length)) := Chg.of_grown hg fun i hi => by cases hi; exact h1
  exact ⟨back ⟨h1, ChangeMaps.heap_setBlock_same h2 _⟩ hc fun i hi => ⟨.inl hi, Nat.lt_of_lt_of_le (hF i hi).2 hc.size⟩, hc.below (fun i hi => (hF i hi).1) h.le⟩

theorem Sep.mapAt {B : Nat} {w : World} {l : List Asn} (k : Nat) {b : Nat} {ks : List ByteArray} (hk : l[k]? = some (mapA b ks)) (h : Sep B w l) : w.heap[b]? = some (.map (entsFrom 0 ks).toArray ks.length) := by
  obtain ⟨F, ⟨h1, h2⟩, _⟩ := h.get k hk
  exact h2

end Go.Lf
