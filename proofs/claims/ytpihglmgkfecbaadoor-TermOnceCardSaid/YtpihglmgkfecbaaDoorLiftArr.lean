/-
  Numbers behind numbers; arenas.
-/
import Derived.Test.YtpihglmgkfecbaaDoorLiftTerm
namespace Go.Lf
open Go Go.RowKit Go.ChangeShapes
set_option linter.unusedVariables false

/-- all of a slice behind numbers of the call's own -/
theorem append_more {P : Program} {t ty e : TypeId} {i : TypeInfo} {z : Value} {bytes : Nat} {k : IntKind} (ht : P.underlying t = some (.slice e)) (hi : P.info? e = some i) (hz : i.zero = some z) (hsize : i.size = 1) (hby : i.bytes = bytes) (hzs : z.cells.size = 1)
    {B : Nat} {w : World} {d s : Sl} {ys xs : List Int} (hd : OwnI B e k w d ys) (hB : B ≤ w.heap.size) (h : Ints k w s xs) (hm : ys.length + xs.length ≤ maxLen) (hb : (ys.length + xs.length) * bytes ≤ 140737488355328) :
    ∃ s' : Sl, ∃ w', (builtin .append #[t, t] ty #[] #[.slice d.a d.len d.cap, .slice s.a s.len s.cap]).run P w = .ok (.value (.slice s'.a s'.len s'.cap)) w' ∧ OwnI B e k w' s' (ys ++ xs) ∧ Below B w w' := by
  have hlen := h.len
  cases ha : s.a with
  | none =>
    have hx : xs = [] := by
      cases xs with
      | nil => rfl
      | cons x xs => obtain ⟨q, hq, _⟩ := h.cell 0 x rfl; rw [ha] at hq; cases hq
    subst hx
    have h0 : s.len = 0 := by simpa using hlen
    refine ⟨d, w, ?_, by rw [List.append_nil]; exact hd, Below.refl _ _⟩
    have hdc : d.len ≤ d.cap := by
      rcases hd.2 with ⟨h1, _⟩ | ⟨g, cap, cur, h1, _, _, hc, _⟩
      · simp only [Value.slice.injEq] at h1; omega
      · simp only [Value.slice.injEq] at h1; omega
    cases hda : d.a with
    | none => 
      rcases hd.2 with ⟨h1, _⟩ | ⟨g, cap, cur, h1, _⟩
      · simp only [Value.slice.injEq] at h1
        simp [builtin, Builtin.append_, run_underlying ht, run_sizeOf' hi, hsize, Builtin.lenOf, Builtin.firstCells, h0, h1.2.1, h1.2.2]
      · simp only [Value.slice.injEq] at h1; rw [hda] at h1; cases h1.1
    | some a =>
      simp [builtin, Builtin.append_, run_underlying ht, run_sizeOf' hi, hsize, Builtin.lenOf, Builtin.firstCells, h0, hdc, storeCells]
  | some a =>
    obtain ⟨v', w', hr, hown, hg, hn⟩ := run_append_own (P := P) w B t ty e i z 1 bytes ht hi hz hsize hby hzs (by omega) _ ys.length (ys.map (Value.int k)) hd a s.len s.cap (xs.map (Value.int k)) (by simp [hlen]) (ints_news h ha)
      one_ints (by rw [hlen]; exact hm) (by rw [hlen]; exact hb) hB
    have hv : ∃ s' : Sl, v' = .slice s'.a s'.len s'.cap := by
      rcases hown.2 with ⟨rfl, h0⟩ | ⟨g, cap, cur, rfl, _⟩
      · exact ⟨⟨none, 0, 0⟩, rfl⟩
      · exact ⟨⟨some ⟨g, 0, none⟩, _, cap⟩, rfl⟩
    obtain ⟨s', rfl⟩ := hv
    refine ⟨s', w', by simp [builtin, hr], ?_, (Below.refl B w).grown hg hB fun k hk => (hd.lt k hk).1⟩
    unfold OwnI
    rw [hlen, ← List.map_append] at hown
    rw [List.length_append]
    exact hown

theorem made_ints {w : World} {e : TypeId} {k : IntKind} {xs : List Int} (hx : xs.length ≤ maxLen) : OwnI w.heap.size e k (w.alloc (.cells (xs.map (Value.int k)).toArray e)) ⟨some (newA w), xs.length, xs.length⟩ xs :=
  row_made (by simp) hx

/-- what is behind the first ones -/
theorem Ints.drop {k : IntKind} {w : World} {s : Sl} {xs : List Int} (h : Ints k w s xs) {m : Nat} (hm : m ≤ xs.length) (hc : s.len ≤ s.cap) :
    Ints k w ⟨if s.cap = m then s.a else s.a.map (·.add m), s.len - m, s.cap - m⟩ (xs.drop m) := by
  have hl := h.len
  refine ⟨by simp [hl], by have := h.small; show s.len - m ≤ _; omega, fun i x hx => ?_⟩
  rw [List.getElem?_drop] at hx
  obtain ⟨p, hp, hlt, hcc⟩ := h.cell (m + i) x hx
  have := (List.getElem?_eq_some_iff.1 hx).1
  refine ⟨p.add m, ?_, by rw [add_block]; exact hlt, by rw [add_add]; exact hcc⟩
  show (if s.cap = m then s.a else s.a.map (·.add m)) = _
  rw [if_neg (by omega), hp]; rfl

/-! arenas -/

theorem _root_.Go.Lf.Sep.swapIn {B : Nat} {w : World} {l : List Asn} {A : Asn} (k : Nat) (hk : k < l.length) (h : Sep B w (A :: l)) : Sep B w (l.set k A) := by
  have h1 : Sep B w (A :: l[k] :: l.eraseIdx k) := h.perm ((perm_front (List.getElem?_eq_getElem hk)).cons A)
  exact (h1.swap.drop).back k hk

abbrev Nds := List (Tm × Sl)
def nodeC (x : Tm × Sl) : List Value := [.int .i64 x.1.kind, .int .i64 x.1.n, .slice x.2.a x.2.len x.2.cap]
theorem nodeC.w (x : Tm × Sl) : (nodeC x).length = 3 := rfl
def terms (N : Nds) : List Tm := N.map (·.1)
def argsL (N : Nds) : List (Sl × List Int) := N.map fun x => (x.2, x.1.args)
theorem terms_len (N : Nds) : (terms N).length = N.length := by simp [terms]
theorem terms_app (N M : Nds) : terms (N ++ M) = terms N ++ terms M := by simp [terms]
theorem terms_at {N : Nds} {i : Nat} {x : Tm × Sl} (h : N[i]? = some x) : (terms N)[i]? = some x.1 := by simp [terms, h]
theorem terms_of {N : Nds} {i : Nat} {t : Tm} (h : (terms N)[i]? = some t) : ∃ s, N[i]? = some (t, s) := by
  unfold terms at h
  rw [List.getElem?_map, Option.map_eq_some_iff] at h
  obtain ⟨x, hx, rfl⟩ := h
  exact ⟨x.2, hx⟩

/-- slices are no longer than there is room -/
def capA (N : Nds) : Asn where
  on _ _ := ∀ x ∈ N, x.2.len ≤ x.2.cap
  loc := fun h _ => h
  grow := fun h _ => h

def arL (ty : TypeId) (p : Addr) (N : Nds) (s : Sl) (m : Nat) : List Asn :=
  [boxA p [.slice s.a s.len s.cap, .map (some m)], rowA ty 3 s N.length (flat nodeC N), mapA m ((terms N).map Tm.key), intsAll .i64 (argsL N)]
def pgL (ty : TypeId) (p : Addr) (N : Nds) (s : Sl) : List Asn :=
  [boxA p [.slice s.a s.len s.cap], rowA ty 3 s N.length (flat nodeC N), intsAll .i64 (argsL N)]
def capsOk (N : Nds) : Prop := ∀ x ∈ N, x.2.len ≤ x.2.cap
def arenaA (ty : TypeId) (p : Addr) (N : Nds) : Asn := exA (fun _ : Sl × Nat => TOk (terms N) ∧ capsOk N) fun x => arL ty p N x.1 x.2
def pageA (ty : TypeId) (p : Addr) (N : Nds) : Asn := exA (fun _ : Sl => TOk (terms N) ∧ capsOk N) fun s => pgL ty p N s

theorem OwnI.cap {B : Nat} {e : TypeId} {k : IntKind} {w : World} {s : Sl} {xs : List Int} (h : OwnI B e k w s xs) : s.len ≤ s.cap := by
  rcases h.2 with ⟨h1, _⟩ | ⟨g, cap, cur, h1, _, _, hc, _⟩
  · simp only [Value.slice.injEq] at h1; omega
  · simp only [Value.slice.injEq] at h1; omega

theorem keys_find (T : List Tm) (t : Tm) : ((T.map Tm.key).findIdx? fun k => decide (k = t.key)) = place T t := by
  rw [List.findIdx?_map]
  unfold place
  congr 1
  funext u
  simp only [Function.comp_apply, decide_eq_decide]
  exact ⟨Tm.key_inj, fun h => by rw [h]⟩

end Go.Lf
