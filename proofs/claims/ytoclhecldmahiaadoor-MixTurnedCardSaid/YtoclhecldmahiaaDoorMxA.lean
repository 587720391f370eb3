/-
  Registers, and what is asked of the last server: what it comes to; contracts.
-/
import Derived.Test.YtoclhecldmahiaaDoorOnA
import Derived.Test.YtoclhecldmahiaaDoorMcFns
set_option linter.unusedVariables false
set_option linter.unusedVariables false
set_option linter.unusedSimpArgs false
namespace Go.Proofs.YtoclhecldmahiaaDoor
open Go.Lf Go.RowKit

/-! registers -/

abbrev Rg := Int × Int
def regC (r : Rg) : List Value := [.int .i64 r.1, .int .i64 r.2]
theorem regC_len (r : Rg) : (regC r).length = 2 := rfl
def regA (s : Sl) (rs : List Rg) : Asn := rowA 72 2 s rs.length (flat regC rs)
/-- a slice reads as registers -/
structure Regs (w : World) (s : Sl) (rs : List Rg) : Prop where
  len : s.len = rs.length
  cell : ∀ (i : Nat) (r : Rg), rs[i]? = some r → ∃ q, s.a = some q ∧ w.cell? (q.add (i * 2)) = some (.int .i64 r.1) ∧ w.cell? ((q.add (i * 2)).add 1) = some (.int .i64 r.2)
theorem Regs.nil (w : World) : Regs w ⟨none, 0, 0⟩ [] := ⟨rfl, by simp⟩
theorem Regs.below {w w' : World} {s : Sl} {rs : List Rg} (h : Regs w s rs) (hb : Below w.heap.size w w') : Regs w' s rs :=
  ⟨h.len, fun i r hi => by obtain ⟨q, hq, h1, h2⟩ := h.cell i r hi; exact ⟨q, hq, Below.here hb h1, Below.here hb h2⟩⟩
theorem Regs.same {w w' : World} {s : Sl} {rs : List Rg} (h : Regs w s rs) (hs : Same w w') : Regs w' s rs := h.below (hs.below _)
theorem flat_regs_one (rs : List Rg) : ∀ u ∈ flat regC rs, u.oneCell' = true := by
  intro u hu
  unfold flat at hu
  rw [List.mem_flatMap] at hu
  obtain ⟨r, _, hu⟩ := hu
  simp [regC] at hu
  rcases hu with rfl | rfl <;> rfl
theorem Regs.flat {w : World} {s : Sl} {rs : List Rg} (h : Regs w s rs) {a : Addr} (ha : s.a = some a) : ∀ j u, (flat regC rs)[j]? = some u → w.cell? (a.add j) = some u := by
  intro j u hj
  have hlt := (List.getElem?_eq_some_iff.1 hj).1
  rw [flat_length regC_len] at hlt
  have hi : j / 2 < rs.length := by omega
  obtain ⟨q, hq, h1, h2⟩ := h.cell (j / 2) rs[j / 2] (List.getElem?_eq_getElem hi)
  rw [ha] at hq
  obtain rfl := Option.some.inj hq
  have hm : j % 2 = 0 ∨ j % 2 = 1 := by omega
  have e := flat_get (f := regC) regC_len (List.getElem?_eq_getElem hi) (j := j % 2) (by omega)
  rw [show j / 2 * 2 + j % 2 = j by omega, hj] at e
  rw [add_add] at h2
  rcases hm with hm | hm
  · rw [hm] at e
    have e : u = .int .i64 rs[j / 2].1 := by simpa [regC] using e
    rw [e, ← h1, show j / 2 * 2 = j by omega]
  · rw [hm] at e
    have e : u = .int .i64 rs[j / 2].2 := by simpa [regC] using e
    rw [e, ← h2, show j / 2 * 2 + 1 = j by omega]

theorem t72 : ∃ i, Tryd.prog.info? 72 = some i ∧ i.zero = some (.agg #[.int .i64 0, .int .i64 0]) ∧ i.size = 2 ∧ i.bytes = 16 := ⟨Tryd.t72, by kernel_rfl, by kernel_rfl, by kernel_rfl, by kernel_rfl⟩
theorem t170 : ∃ i, Tryd.prog.info? 170 = some i ∧ i.zero = some (.agg #[.int .i64 0, .slice none 0 0]) ∧ i.size = 2 ∧ i.bytes = 32 := ⟨Tryd.t170, by kernel_rfl, by kernel_rfl, by kernel_rfl, by kernel_rfl⟩

section
variable {W w w' : World} {L R : List Asn} {p : Addr} {T : List Tm}

theorem regNow {B : Nat} (k : Nat) {s : Sl} {rs : List Rg} (hk : L[k]? = some (regA s rs)) (h : Sep B w L) : Regs w s rs := by
  refine ⟨(h.rowLen k hk).1, fun i r hi => ?_⟩
  obtain ⟨q, hq, hc⟩ := h.rowGet k (by omega) regC_len hk hi
  have h0 := hc 0 _ rfl
  rw [add_zero] at h0
  exact ⟨q, hq, h0, hc 1 _ rfl⟩
theorem At.regs (k : Nat) {s : Sl} {rs : List Rg} (hk : L[k]? = some (regA s rs)) (h : At W w L) : Regs w s rs := regNow k hk h.s
theorem At.regNil (h : At W w R) : At W w (regA ⟨none, 0, 0⟩ [] :: R) := h.go (h.s.rowNil 72 2) (Below.refl _ _)

/-- a temporary -/
theorem At.tmp (h : At W w R) (ty : TypeId) {zs cs : List Value} (hl : zs.length = cs.length) :
    (∀ j, j < cs.length → Wr (w.alloc (.cells zs.toArray ty)) ((newA w).add j)) ∧ At W (setCells (newA w) cs 0 (w.alloc (.cells zs.toArray ty))) (boxA (newA w) cs :: R) := by
  refine ⟨fun j hj => wr_new _ _ _ (by simpa [hl] using hj), ?_⟩
  rw [box_set hl]
  exact h.go2 (h.s.box cs ty)
theorem At.box (h : At W w R) (ty : TypeId) (cs : List Value) : At W (w.alloc (.cells cs.toArray ty)) (boxA (newA w) cs :: R) := h.go2 (h.s.box cs ty)
/-- two cells of a box are written -/
theorem At.set2 (h : At W w R) (k : Nat) {q : Addr} {x y : Value} (hk : R[k]? = some (boxA q [x, y])) (a b : Value) : (∀ j, j < 2 → Wr w (q.add j)) ∧ At W (setCells q [a, b] 0 w) (R.set k (boxA q [a, b])) := by
  refine ⟨fun j hj => h.s.wr k hk (by simpa using hj), ?_⟩
  have hlt := (List.getElem?_eq_some_iff.1 hk).1
  obtain ⟨h1, b1⟩ := h.s.set k hk (j := 0) (by simp) a
  obtain ⟨h2, b2⟩ := h1.set k (p := q) (cs := [a, y]) (by simp [hlt]) (j := 1) (by simp) b
  refine h.go ?_ (b1.trans b2)
  unfold setCells setCells
  rw [List.set_set] at h2
  exact h2

theorem clone_regs (h : At W w R) {s : Sl} {rs : List Rg} (hr : Regs w s rs) (hn : s.a = none → rs = []) (hl : rs.length ≤ 1000000) :
    CallsV Tryd.prog n_slices_Clone_Reg #[.slice s.a s.len s.cap] w fun v w' => ∃ s' : Sl, v = .slice s'.a s'.len s'.cap ∧ At W w' (regA s' rs :: R) := by
  refine slices_Clone_Reg.lift ?_
  unfold slices_Clone_Reg.main
  have hlen := hr.len
  cases ha : s.a with
  | none =>
    have := hn ha
    subst this
    exact cond_t rfl ⟨⟨none, 0, 0⟩, rfl, h.regNil⟩
  | some a =>
    refine cond_f' rfl ?_
    intro w1
    obtain ⟨i, hi, hz, hsz, hby⟩ := t72
    obtain ⟨s', w', hrun, hl', hown, hb⟩ := clone_go (t := 57) (ty := 57) Tryd.underlying57 hi hz hsz hby rfl (by omega) (w := w) (a := a) (m := rs.length) (c := s.cap) (news := flat regC rs) (flat_length regC_len rs) (hr.flat ha) (flat_regs_one rs) (by unfold maxLen; omega) (by omega)
    rw [← hlen] at hrun
    exact ⟨_, _, _, _, hrun, s', rfl, h.go (h.s.row hown hb) (hb.mono h.s.le)⟩

/-- one register more -/
theorem reg_more (k : Nat) {s : Sl} {rs : List Rg} (hk : L[k]? = some (regA s rs)) (h : At W w L) (r : Rg) (hl : rs.length ≤ 1000000) :
    ∃ (s' : Sl) (w' : World), (builtin .append #[57, 57] 57 #[] #[.slice s.a s.len s.cap, .slice (some (newA w)) 1 1]).run Tryd.prog (w.alloc (.cells #[.int .i64 r.1, .int .i64 r.2] 72)) = .ok (.value (.slice s'.a s'.len s'.cap)) w' ∧ At W w' (L.set k (regA s' (rs ++ [r]))) := by
  obtain ⟨i, hi, hz, hsz, hby⟩ := t72
  have hb1 := below_alloc w (.cells #[.int .i64 r.1, .int .i64 r.2] 72)
  have h1 := h.s.keep hb1
  obtain ⟨s', w', hr, _, h2, hb2⟩ := Sep.append (t := 57) (ty := 57) (c := 1) (m := 1) Tryd.underlying57 hi hz hsz hby rfl (by omega) k hk h1 (a := newA w) (news := regC r) rfl
    (fun j u hu => by rw [← hu]; exact (cell_new w #[.int .i64 r.1, .int .i64 r.2] 72 j).trans (by simp [regC]))
    (by intro u hu; simp [regC] at hu; rcases hu with rfl | rfl <;> rfl) (by unfold maxLen; omega) (by omega) (by omega)
  refine ⟨s', w', hr, h.go ?_ ((hb1.mono h.s.le).trans hb2)⟩
  unfold regA
  rw [flat_app, flat_one, List.length_append]
  exact h2

/-! are all of them there? -/

theorem mixhas_at (h : At W w (arT p T :: R)) {s : Sl} {rs : List Rg} (hl : rs.length ≤ 1000000) (hI : ∀ L w', At W w' (L ++ R) → Regs w' s rs) :
    CallsV Tryd.prog n_mix_has #[.pointer (some p), .slice s.a s.len s.cap] w fun v w' => v = .bool (decide (∀ r ∈ rs, inT T r.1 ∧ inT T r.2)) ∧ At W w' (arT p T :: R) := by
  refine mix_has.lift ?_
  unfold mix_has.main
  have hlen := (hI [_] w h).len
  intro w1
  have h1 : At W w1 (boxA (newA w) [.pointer (some p)] :: arT p T :: R) := h.box 27 [.pointer (some p)]
  clear_value w1
  generalize newA w = c at h1 ⊢
  refine CallsV.mono (slices_ContainsFunc_Reg__mix_has_1.lift (R := fun v w' => v = .bool (!decide (∀ r ∈ rs, inT T r.1 ∧ inT T r.2)) ∧ At W w' (arT p T :: R)) ?_) ?_
  · unfold slices_ContainsFunc_Reg__mix_has_1.main
    refine CallsV.mono (slices_IndexFunc_Reg__mix_has_1.lift (R := fun v w' => ∃ x : Int, v = .int .i64 x ∧ (x ≥ 0 ↔ ¬ ∀ r ∈ rs, inT T r.1 ∧ inT T r.2) ∧ At W w' (arT p T :: R)) ?_) ?_
    · unfold slices_IndexFunc_Reg__mix_has_1.main slices_IndexFunc_Reg__mix_has_1.l1
      refine ⟨fun t w' => ∃ k : Nat, t = k ∧ k ≤ rs.length ∧ (∀ r ∈ rs.take k, inT T r.1 ∧ inT T r.2) ∧ At W w' (boxA c [.pointer (some p)] :: arT p T :: R), fun t _ => rs.length - t.toNat, ⟨0, rfl, by omega, by simp, h1⟩, ?_⟩
      rintro _ w2 ⟨k, rfl, hk, hall, h2⟩
      unfold slices_IndexFunc_Reg__mix_has_1.b1
      refine cond_d (p := ((k : Nat) : Int) < ((s.len : Nat) : Int)) (fun hlt => ?_) fun hge => ?_
      · have hk' : k < rs.length := by omega
        obtain ⟨q, hq, c1, c2⟩ := (hI [_, _] w2 h2).cell k rs[k] (List.getElem?_eq_getElem hk')
        refine ⟨by omega, hlt, q, hq, _, by rw [Int.toNat_natCast]; exact c1, _, by rw [Int.toNat_natCast]; exact c2, ?_⟩
        refine CallsV.mono (mix_has_1.lift (R := fun v w' => v = .bool (!decide (inT T rs[k].1 ∧ inT T rs[k].2)) ∧ At W w' (boxA c [.pointer (some p)] :: arT p T :: R)) ?_) ?_
        · unfold mix_has_1.main
          intro w3
          have h3 : At W w3 (boxA (newA w2) (regC rs[k]) :: boxA c [.pointer (some p)] :: arT p T :: R) := h2.box 72 (regC rs[k])
          clear_value w3
          generalize newA w2 = d at h3 ⊢
          refine ⟨_, h3.s.cell0 1 rfl rfl, _, h3.s.cell0 0 rfl rfl, _, h3.s.cell 0 rfl 1 rfl, ?_⟩
          intro w4
          refine (has_new [rs[k].1, rs[k].2] (h3.front 2 rfl) (by simp)).mono ?_
          rintro _ w5 ⟨rfl, h5⟩
          have h5 : At W w5 (arT p T :: boxA d (regC rs[k]) :: boxA c [.pointer (some p)] :: R) := h5
          refine ⟨_, rfl, ?_, ((h5.front 1 rfl).drop).swap⟩
          simp
        · rintro _ w3 ⟨rfl, h3⟩
          refine ⟨_, rfl, cond_not (fun hf => ?_) fun ht => ?_⟩
          · have hout := of_decide_eq_false hf
            exact ⟨_, rfl, ⟨fun _ hn => hout (hn _ (List.getElem_mem hk')), fun _ => by omega⟩, h3.drop⟩
          · have hin := of_decide_eq_true ht
            rw [inc (by omega)]
            refine ⟨⟨rfl, rfl, rfl, k + 1, rfl, by omega, fun r hr => ?_, h3⟩, by (try dsimp only); omega⟩
            rw [List.take_succ_eq_append_getElem hk', List.mem_append, List.mem_singleton] at hr
            rcases hr with hr | rfl
            · exact hall r hr
            · exact hin
      · rw [List.take_of_length_le (by omega)] at hall
        exact ⟨-1, rfl, ⟨fun h => by omega, fun h => absurd hall h⟩, h2.drop⟩
    · rintro _ w2 ⟨x, rfl, hx, h2⟩
      refine ⟨x, rfl, ?_, h2⟩
      congr 1
      by_cases hp : ∀ r ∈ rs, inT T r.1 ∧ inT T r.2
      · rw [decide_eq_false (fun h => hx.1 h hp), decide_eq_true hp]; rfl
      · rw [decide_eq_true (hx.2 hp), decide_eq_false hp]; rfl
  · rintro _ w2 ⟨rfl, h2⟩
    exact ⟨_, rfl, by simp, h2⟩
end

end Go.Proofs.YtoclhecldmahiaaDoor

/-
  What is asked of the last server: which request a payload is; contract.
-/
set_option linter.unusedVariables false
set_option linter.unusedSimpArgs false
namespace Go.Proofs.YtoclhecldmahiaaDoor
open Go.Lf Go.RowKit

/-- a request's word, and what stands behind it; 0: it is none -/
def rqWord (n : Int) (rest : List Int) : Int × List Int := if n < 71 ∨ 73 < n ∨ rest.length ≠ (if n = 72 then 1 else 2) then (0, []) else (n, rest)
def rqOf (T : List Tm) (i : Int) : Int × List Int :=
  if (tmAt T i).kind ≠ 9 then (0, []) else if (tmAt T i).args.length < 2 then (0, []) else if (tmAt T (arg0 (tmAt T i))).kind ≠ 2 then (0, []) else
  rqWord (tmAt T (arg0 (tmAt T i))).n ((tmAt T i).args.drop 1)

theorem rqWord_kind (n : Int) (rest : List Int) : rqWord n rest = (0, []) ∨ (((rqWord n rest).1 = 71 ∨ (rqWord n rest).1 = 73) ∧ (rqWord n rest).2.length = 2) ∨ ((rqWord n rest).1 = 72 ∧ (rqWord n rest).2.length = 1) := by
  by_cases h : n < 71 ∨ 73 < n ∨ rest.length ≠ (if n = 72 then 1 else 2)
  · exact .inl (by unfold rqWord; rw [if_pos h])
  · have e : rqWord n rest = (n, rest) := by unfold rqWord; rw [if_neg h]
    rw [e]
    by_cases h72 : n = 72
    · subst h72
      rw [if_pos rfl] at h
      exact .inr (.inr ⟨rfl, by show rest.length = 1; omega⟩)
    · rw [if_neg h72] at h
      refine .inr (.inl ⟨?_, ?_⟩)
      · show n = 71 ∨ n = 73; omega
      · show rest.length = 2; omega
theorem rqOf_kind (T : List Tm) (i : Int) : rqOf T i = (0, []) ∨ (((rqOf T i).1 = 71 ∨ (rqOf T i).1 = 73) ∧ (rqOf T i).2.length = 2) ∨ ((rqOf T i).1 = 72 ∧ (rqOf T i).2.length = 1) := by
  unfold rqOf
  split
  · exact .inl rfl
  · split
    · exact .inl rfl
    · split
      · exact .inl rfl
      · exact rqWord_kind _ _

section
variable {W w w' : World} {L R : List Asn} {p : Addr} {N : Nds}

/-- what reads as numbers as long as an arena stands -/
def InA (p : Addr) (N : Nds) (s : Sl) (xs : List Int) : Prop := ∀ B w R, Sep B w (arA p N :: R) → Ints .i64 w s xs

theorem atN {x : Int} (h : At W w (arA p N :: R)) (hx : inT (terms N) x) :
    CallsV Tryd.prog n_term_Arena_At #[.pointer (some p), .int .i64 x] w fun v w' => ∃ sl : Sl, N[x.toNat]? = some (tmAt (terms N) x, sl) ∧ v = .agg #[.int .i64 (tmAt (terms N) x).kind, .int .i64 (tmAt (terms N) x).n, .slice sl.a sl.len sl.cap] ∧ At W w' (arA p N :: R) := by
  obtain ⟨sl, hN⟩ := at_in hx
  have hx' := hx
  unfold inT at hx'
  have hfew := (arOk h.s).few
  have ex : ((x.toNat : Nat) : Int) = x := by omega
  have := at_spec h.s hN (by omega)
  rw [ex] at this
  refine this.mono ?_
  rintro _ w' ⟨rfl, hb⟩
  exact ⟨sl, hN, rfl, h.keep hb⟩

set_option maxRecDepth 100000 in
theorem request_at {i : Int} (h : At W w (arA p N :: R)) (hi : inT (terms N) i) :
    CallsV Tryd.prog n_mix_requestOf #[.pointer (some p), .int .i64 i] w fun v w' => ∃ sl : Sl, v = .agg #[.int .i64 (rqOf (terms N) i).1, .slice sl.a sl.len sl.cap] ∧ InA p N sl (rqOf (terms N) i).2 ∧ At W w' (arA p N :: R) := by
  refine mix_requestOf.lift ?_
  unfold mix_requestOf.main
  have hok := arOk h.s
  generalize hRR : (fun (v : Value) (w' : World) => ∃ sl : Sl, v = .agg #[.int .i64 (rqOf (terms N) i).1, .slice sl.a sl.len sl.cap] ∧ InA p N sl (rqOf (terms N) i).2 ∧ At W w' (arA p N :: R)) = RR
  intro w1
  have h1 : At W w1 (boxA (newA w) [.int .i64 0, .slice none 0 0] :: arA p N :: R) := h.box 170 [.int .i64 0, .slice none 0 0]
  clear_value w1
  generalize newA w = t4 at h1 ⊢
  -- nothing
  have out : ∀ {w' : World} {L : List Asn} {x y : Value}, At W w' (boxA t4 [x, y] :: (L ++ (arA p N :: R))) → rqOf (terms N) i = (0, []) → (∀ j, j < 2 → Wr w' (t4.add j)) ∧
      (let w15 := setCells t4 [.int .i64 0, .slice none 0 0] 0 w'; ∃ x_56 : Int, w15.cell? t4 = some (.int .i64 x_56) ∧ ∃ (a_57 : Option Addr) (l_58 c_59 : Nat), w15.cell? (t4.add 1) = some (.slice a_57 l_58 c_59) ∧ RR (.agg #[.int .i64 x_56, .slice a_57 l_58 c_59]) w15) := by
    intro w' L x y h' he
    obtain ⟨k1, k2⟩ := h'.set2 0 rfl (.int .i64 0) (.slice none 0 0)
    refine ⟨k1, ?_⟩
    have k2 : At W (setCells t4 [.int .i64 0, .slice none 0 0] 0 w') (boxA t4 [.int .i64 0, .slice none 0 0] :: (L ++ (arA p N :: R))) := k2
    refine ⟨_, k2.s.cell0 0 rfl rfl, _, _, _, k2.s.cell 0 rfl 1 rfl, ?_⟩
    rw [← hRR]
    rw [he]
    exact ⟨⟨none, 0, 0⟩, rfl, fun _ _ _ _ => Ints.nil, k2.drop.dropL⟩
  refine (atN h1.swap hi).mono ?_
  rintro _ w2 ⟨sl, hN, rfl, h2⟩
  have h2 : At W w2 (boxA t4 [.int .i64 0, .slice none 0 0] :: arA p N :: R) := h2.swap
  have hsl : ∀ {B w R}, Sep B w (arA p N :: R) → Ints .i64 w sl (tmAt (terms N) i).args ∧ sl.len ≤ sl.cap := fun hs => arArgs hs hN
  generalize ht : tmAt (terms N) i = t at hN hsl ⊢
  refine ⟨_, _, _, _, _, rfl, ?_⟩
  intro w3
  obtain ⟨q3, h3⟩ := h2.tmp 98 (zs := [.int .i64 0, .int .i64 0, .slice none 0 0]) (cs := [.int .i64 t.kind, .int .i64 t.n, .slice sl.a sl.len sl.cap]) rfl
  refine ⟨q3, ?_⟩
  intro w4
  have h4 : At W w4 (boxA (newA w2) [.int .i64 t.kind, .int .i64 t.n, .slice sl.a sl.len sl.cap] :: boxA t4 [.int .i64 0, .slice none 0 0] :: arA p N :: R) := h3
  clear_value w4
  generalize newA w2 = t5 at h4 ⊢
  have hlen : sl.len = t.args.length := (hsl (h4.s.dropL (l := [_, _]))).1.len
  have hcap : sl.len ≤ sl.cap := (hsl (h4.s.dropL (l := [_, _]))).2
  refine ⟨_, h4.s.cell0 0 rfl rfl, cond_n (fun hk => ?_) fun hk => ?_⟩
  · exact out (L := [_]) h4.swap (by unfold rqOf; rw [ht, if_pos hk])
  refine ⟨_, _, _, h4.s.cell 0 rfl 2 rfl, cond_d (fun hl => ?_) fun hl => ?_⟩
  · exact out (L := [_]) h4.swap (by unfold rqOf; rw [ht, if_neg (fun h => h hk), if_pos (by omega)])
  have hl2 : 2 ≤ t.args.length := by omega
  obtain ⟨qa, hqa, hca⟩ := (hsl (h4.s.dropL (l := [_, _]))).1.get (i := 0) (by omega) (by omega)
  have ha0 : t.args[(0 : Int).toNat]?.getD 0 = arg0 t := rfl
  rw [ha0] at hca
  have hin0 : inT (terms N) (arg0 t) := by
    have hlt : i.toNat < (terms N).length := by unfold inT at hi; omega
    have e : (terms N)[i.toNat]? = some t := by rw [← ht]; unfold tmAt; rw [List.getElem?_eq_getElem hlt]; rfl
    have := hok.argsAt e (arg0 t) (by
      show t.args[0]?.getD 0 ∈ t.args
      rw [List.getElem?_eq_getElem (by omega)]; exact List.getElem_mem _)
    unfold inT; omega
  refine ⟨_, _, _, h4.s.cell 0 rfl 2 rfl, by omega, by omega, qa, hqa, _, hca, (atN (h4.front 2 rfl) hin0).mono ?_⟩
  rintro _ w5 ⟨sl2, hN2, rfl, h5⟩
  have h5 : At W w5 (boxA t4 [.int .i64 0, .slice none 0 0] :: boxA t5 [.int .i64 t.kind, .int .i64 t.n, .slice sl.a sl.len sl.cap] :: arA p N :: R) := (h5.front 2 rfl |>.perm (List.Perm.cons _ (List.Perm.swap _ _ _)))
  generalize hu : tmAt (terms N) (arg0 t) = u at hN2 ⊢
  refine ⟨_, _, _, _, _, rfl, cond_n (fun hk2 => ?_) fun hk2 => ?_⟩
  · exact out (L := [_]) h5 (by unfold rqOf; rw [ht, if_neg (fun h => h hk), if_neg (by omega), hu, if_pos hk2])
  unfold mix_requestOf.c3
  have cells : ∀ {y : World} {L : List Asn}, At W y (L ++ (boxA t4 [.int .i64 0, .slice none 0 0] :: boxA t5 [.int .i64 t.kind, .int .i64 t.n, .slice sl.a sl.len sl.cap] :: arA p N :: R)) → y.cell? (t5.add 2) = some (.slice sl.a sl.len sl.cap) ∧ y.cell? (qa.add 0) = some (.int .i64 (arg0 t)) := by
    intro y L hy
    have hy := hy.dropL
    refine ⟨hy.s.cell 1 rfl 2 rfl, ?_⟩
    obtain ⟨qb, hqb, hcb⟩ := (hsl (hy.s.dropL (l := [_, _]))).1.get (i := 0) (by omega) (by omega)
    rw [hqa] at hqb
    obtain rfl := Option.some.inj hqb
    rw [ha0] at hcb
    exact hcb
  have hdrop : InA p N ⟨if sl.cap = 1 then sl.a else sl.a.map (·.add 1), sl.len - 1, sl.cap - 1⟩ (t.args.drop 1) := fun B w R hs => (hsl hs).1.drop (by omega) hcap
  have erq : rqOf (terms N) i = rqWord u.n (t.args.drop 1) := by
    unfold rqOf; rw [ht, if_neg (fun h => h hk), if_neg (by omega), hu, if_neg (fun h => h hk2)]
  -- the end
  have c2 : ∀ (w' : World) (r : Addr) (want : Int), want = (if u.n = 72 then 1 else 2) → At W w' (boxA r [.int .i64 u.n, .slice (if sl.cap = 1 then sl.a else sl.a.map (·.add 1)) (sl.len - 1) (sl.cap - 1)] :: boxA t4 [.int .i64 0, .slice none 0 0] :: boxA t5 [.int .i64 t.kind, .int .i64 t.n, .slice sl.a sl.len sl.cap] :: arA p N :: R) → mix_requestOf.c2 RR t4 r want w' := by
    intro w' r want hw h'
    unfold mix_requestOf.c2
    have hd1 : (t.args.drop 1).length = sl.len - 1 := by rw [List.length_drop, hlen]
    refine ⟨_, h'.s.cell0 0 rfl rfl, cond_d (fun h71 => ?_) fun h71 => ⟨_, h'.s.cell0 0 rfl rfl, cond_d (fun h73 => ?_) fun h73 => ⟨_, _, _, h'.s.cell 0 rfl 1 rfl, cond_n (fun hw2 => ?_) fun hw2 => ?_⟩⟩⟩
    · exact out (L := [_, _]) (h'.front 1 rfl) (by rw [erq]; unfold rqWord; rw [if_pos (.inl h71)])
    · exact out (L := [_, _]) (h'.front 1 rfl) (by rw [erq]; unfold rqWord; rw [if_pos (.inr (.inl h73))])
    · have hc : (t.args.drop 1).length ≠ (if u.n = 72 then 1 else 2) := by
        rw [hd1]
        intro e
        apply hw2
        rw [hw]
        show ((sl.len - 1 : Nat) : Int) = _
        rw [e]; by_cases h7 : u.n = 72 <;> simp [h7]
      exact out (L := [_, _]) (h'.front 1 rfl) (by rw [erq]; unfold rqWord; rw [if_pos (.inr (.inr hc))])
    · unfold mix_requestOf.c1
      have h'' := h'.front 1 rfl
      have h'' : At W w' (boxA t4 [.int .i64 0, .slice none 0 0] :: boxA r [.int .i64 u.n, .slice (if sl.cap = 1 then sl.a else sl.a.map (·.add 1)) (sl.len - 1) (sl.cap - 1)] :: boxA t5 [.int .i64 t.kind, .int .i64 t.n, .slice sl.a sl.len sl.cap] :: arA p N :: R) := h''
      obtain ⟨k1, k2⟩ := h''.set2 0 rfl (.int .i64 u.n) (.slice (if sl.cap = 1 then sl.a else sl.a.map (·.add 1)) (sl.len - 1) (sl.cap - 1))
      have k2 := (show At W _ (boxA t4 [.int .i64 u.n, .slice (if sl.cap = 1 then sl.a else sl.a.map (·.add 1)) (sl.len - 1) (sl.cap - 1)] :: ([_, _] ++ (arA p N :: R))) from k2)
      refine ⟨_, h'.s.cell0 0 rfl rfl, _, _, _, h'.s.cell 0 rfl 1 rfl, k1, _, k2.s.cell0 0 rfl rfl, _, _, _, k2.s.cell 0 rfl 1 rfl, ?_⟩
      rw [← hRR]
      have e : rqOf (terms N) i = (u.n, t.args.drop 1) := by
        rw [erq]; unfold rqWord
        rw [if_neg]
        rintro (h | h | h)
        · exact h71 h
        · exact h73 h
        · apply h
          rw [hd1]
          rw [hw] at hw2
          have hw2 : ((sl.len - 1 : Nat) : Int) = if u.n = 72 then 1 else 2 := hw2
          by_cases h7 : u.n = 72
          · rw [if_pos h7] at hw2 ⊢; omega
          · rw [if_neg h7] at hw2 ⊢; omega
      rw [e]
      exact ⟨⟨if sl.cap = 1 then sl.a else sl.a.map (·.add 1), sl.len - 1, sl.cap - 1⟩, rfl, hdrop, k2.drop.dropL⟩
  have h6 := h5.drew
  have fin : ∀ (w' : World) (r : Addr), At W w' (boxA r [.int .i64 u.n, .slice (if sl.cap = 1 then sl.a else sl.a.map (·.add 1)) (sl.len - 1) (sl.cap - 1)] :: boxA t4 [.int .i64 0, .slice none 0 0] :: boxA t5 [.int .i64 t.kind, .int .i64 t.n, .slice sl.a sl.len sl.cap] :: arA p N :: R) →
      ∃ x_41 : Int, w'.cell? r = some (.int .i64 x_41) ∧ cond ((x_41 : Int) == 72) (mix_requestOf.c2 RR t4 r 1 w') (mix_requestOf.c2 RR t4 r 2 w') := by
    intro w' r h'
    exact ⟨_, h'.s.cell0 0 rfl rfl, cond_e (fun h72 => c2 w' r 1 (by rw [if_pos h72]) h') fun h72 => c2 w' r 2 (by rw [if_neg h72]) h'⟩
  refine ⟨fun y => y.cell? (t5.add 2) = some (.slice sl.a sl.len sl.cap) ∧ y.cell? (qa.add 0) = some (.int .i64 (arg0 t)), cells (L := []) h6, _, _, _, fun y hy => hy.1, by omega, by omega, qa, hqa, _, fun y hy => hy.2, _, _, _, fun y hy => hy.1, by omega, by omega, by omega, by omega, ?_, ?_⟩
  · refine (atN (h6.front 2 rfl) hin0).mono ?_
    rintro _ w7 ⟨sl3, hN3, rfl, h7⟩
    rw [hu]
    have h7 : At W w7 (boxA t4 [.int .i64 0, .slice none 0 0] :: boxA t5 [.int .i64 t.kind, .int .i64 t.n, .slice sl.a sl.len sl.cap] :: arA p N :: R) := (h7.front 2 rfl).front 2 rfl
    refine ⟨_, _, _, _, _, rfl, cells (L := []) h7, ?_⟩
    intro w8
    have h8 : At W w8 (boxA (newA w7) [.int .i64 0, .slice none 0 0] :: boxA t4 [.int .i64 0, .slice none 0 0] :: boxA t5 [.int .i64 t.kind, .int .i64 t.n, .slice sl.a sl.len sl.cap] :: arA p N :: R) := h7.box 170 [.int .i64 0, .slice none 0 0]
    clear_value w8
    generalize newA w7 = r at h8 ⊢
    obtain ⟨k1, k2⟩ := h8.set2 0 rfl (.int .i64 u.n) (.slice (if sl.cap = 1 then sl.a else sl.a.map (·.add 1)) (sl.len - 1) (sl.cap - 1))
    exact ⟨cells (L := [_]) h8, k1, fin _ r k2⟩
  · intro w8
    have h8 : At W w8 (boxA (newA w5.drew) [.int .i64 0, .slice none 0 0] :: boxA t4 [.int .i64 0, .slice none 0 0] :: boxA t5 [.int .i64 t.kind, .int .i64 t.n, .slice sl.a sl.len sl.cap] :: arA p N :: R) := h6.box 170 [.int .i64 0, .slice none 0 0]
    clear_value w8
    generalize newA w5.drew = r at h8 ⊢
    refine ⟨cells (L := [_]) h8, (atN (h8.front 3 rfl) hin0).mono ?_⟩
    rintro _ w9 ⟨sl3, hN3, rfl, h9⟩
    rw [hu]
    have h9 : At W w9 (boxA r [.int .i64 0, .slice none 0 0] :: boxA t4 [.int .i64 0, .slice none 0 0] :: boxA t5 [.int .i64 t.kind, .int .i64 t.n, .slice sl.a sl.len sl.cap] :: arA p N :: R) := (((h9.front 3 rfl).front 3 rfl).front 3 rfl)
    refine ⟨_, _, _, _, _, rfl, cells (L := [_]) h9, ?_⟩
    obtain ⟨k1, k2⟩ := h9.set2 0 rfl (.int .i64 u.n) (.slice (if sl.cap = 1 then sl.a else sl.a.map (·.add 1)) (sl.len - 1) (sl.cap - 1))
    exact ⟨k1, fin _ r k2⟩
end

end Go.Proofs.YtoclhecldmahiaaDoor

/-
  What the last server does with one request; contract.
-/
set_option linter.unusedVariables false
set_option linter.unusedSimpArgs false
namespace Go.Proofs.YtoclhecldmahiaaDoor
open Go.Lf Go.RowKit

abbrev Rq := Int × List Int
def valT (none : Int) (rs : List Rg) (id : Int) : Int := ((rs.find? fun g => g.1 == id).map (·.2)).getD none
def hasId (rs : List Rg) (id : Int) : Bool := rs.any fun g => g.1 == id
def rq (Q : List Rq) (j : Nat) : Rq := Q[j]?.getD (0, [])
def rqId (Q : List Rq) (j : Nat) : Int := (rq Q j).2[0]?.getD 0
def rqV (Q : List Rq) (j : Nat) : Int := (rq Q j).2[1]?.getD 0
/-- what others have left at a drop, among the first ones -/
def metL (Q : List Rq) (k m : Nat) : List Int := ((List.range m).filter fun j => decide (j ≠ k) && (rq Q j).1 == 73 && rqId Q j == rqId Q k).map (rqV Q)
def metT (none : Int) (Q : List Rq) (k : Nat) : Int := if (metL Q k Q.length).length = 1 then (metL Q k Q.length).getLast?.getD none else none
def ansT (none : Int) (Q : List Rq) (rs : List Rg) (k : Nat) : List Rg × Int :=
  if (rq Q k).1 = 71 then
    (if hasId rs (rqId Q k) then rs else rs ++ [(rqId Q k, rqV Q k)], valT none (if hasId rs (rqId Q k) then rs else rs ++ [(rqId Q k, rqV Q k)]) (rqId Q k))
  else if (rq Q k).1 = 72 then (rs, valT none rs (rqId Q k)) else if (rq Q k).1 = 73 then (rs, metT none Q k) else (rs, none)
def doS (none : Int) (Q : List Rq) (rs : List Rg) : Nat → List Rg × List Int
  | 0 => (rs, [])
  | k + 1 => ((ansT none Q (doS none Q rs k).1 k).1, (doS none Q rs k).2 ++ [(ansT none Q (doS none Q rs k).1 k).2])

theorem metL_succ (Q : List Rq) (k m : Nat) : metL Q k (m + 1) = if m ≠ k ∧ (rq Q m).1 = 73 ∧ rqId Q m = rqId Q k then metL Q k m ++ [rqV Q m] else metL Q k m := by
  unfold metL
  rw [List.range_succ, List.filter_append, List.map_append]
  by_cases h : m ≠ k ∧ (rq Q m).1 = 73 ∧ rqId Q m = rqId Q k
  · rw [if_pos h, List.filter_cons_of_pos (by simp [h.1, h.2.1, h.2.2])]
    rfl
  · rw [if_neg h, List.filter_cons_of_neg]
    · simp
    · simp only [Bool.and_eq_true, decide_eq_true_eq, beq_iff_eq]
      rintro ⟨⟨h1, h2⟩, h3⟩
      exact h ⟨h1, h2, h3⟩
theorem metL_len (Q : List Rq) (k m : Nat) : (metL Q k m).length ≤ m := by
  unfold metL
  rw [List.length_map]
  exact Nat.le_trans (List.length_filter_le _ _) (by simp)

theorem doS_len (none : Int) (Q : List Rq) (rs : List Rg) (k : Nat) : (doS none Q rs k).2.length = k ∧ (doS none Q rs k).1.length ≤ rs.length + k := by
  induction k with
  | zero => exact ⟨rfl, Nat.le_refl _⟩
  | succ k ih =>
    refine ⟨by show ((doS none Q rs k).2 ++ [_]).length = _; simp [ih.1], ?_⟩
    show (ansT none Q (doS none Q rs k).1 k).1.length ≤ _
    unfold ansT
    split
    · split
      · show (doS none Q rs k).1.length ≤ _; omega
      · show ((doS none Q rs k).1 ++ [_]).length ≤ _; simp; omega
    · split
      · show (doS none Q rs k).1.length ≤ _; omega
      · split <;> (show (doS none Q rs k).1.length ≤ _; omega)

/-- requests that may be -/
def RqOk (Q : List Rq) : Prop := ∀ (j : Nat) (q : Rq), Q[j]? = some q → q = (0, []) ∨ ((q.1 = 71 ∨ q.1 = 73) ∧ q.2.length = 2) ∨ (q.1 = 72 ∧ q.2.length = 1)

def rqC (x : Int × Sl) : List Value := [.int .i64 x.1, .slice x.2.a x.2.len x.2.cap]
theorem rqC_len (x : Int × Sl) : (rqC x).length = 2 := rfl
def rqA (s : Sl) (X : List (Int × Sl)) : Asn := rowA 170 2 s X.length (flat rqC X)
/-- requests as they stand -/
structure RqIn (p : Addr) (N : Nds) (X : List (Int × Sl)) (Q : List Rq) : Prop where
  len : X.length = Q.length
  at_ : ∀ (j : Nat) (x : Int × Sl) (q : Rq), X[j]? = some x → Q[j]? = some q → x.1 = q.1 ∧ InA p N x.2 q.2

section
variable {W w w' : World} {L R : List Asn} {p ls r : Addr} {N : Nds} {sr sq sl : Sl} {nw wd : Int} {rs : List Rg} {X : List (Int × Sl)} {Q : List Rq} {rest : List Int}

/-- the last server, at work -/
abbrev lastL (ls p : Addr) (N : Nds) (sr sq : Sl) (nw : Int) (rs : List Rg) (X : List (Int × Sl)) (R : List Asn) : List Asn :=
  boxA ls [.slice sr.a sr.len sr.cap, .slice sq.a sq.len sq.cap, .int .i64 nw] :: regA sr rs :: rqA sq X :: arA p N :: R

theorem rqNow {B : Nat} (k : Nat) {s : Sl} (hk : L[k]? = some (rqA s X)) (h : Sep B w L) {j : Nat} {x : Int × Sl} (hj : X[j]? = some x) :
    ∃ q, s.a = some q ∧ w.cell? (q.add (j * 2)) = some (.int .i64 x.1) ∧ w.cell? ((q.add (j * 2)).add 1) = some (.slice x.2.a x.2.len x.2.cap) := by
  obtain ⟨q, hq, hc⟩ := h.rowGet k (by omega) rqC_len hk hj
  have h0 := hc 0 _ rfl
  rw [add_zero] at h0
  exact ⟨q, hq, h0, hc 1 _ rfl⟩

/-! is a register the request's? -/

theorem clos1 (h : At W w (boxA r [.int .i64 wd, .slice sl.a sl.len sl.cap] :: lastL ls p N sr sq nw rs X R)) (hI : InA p N sl rest) (hl : 1 ≤ rest.length) (g0 g1 : Int) :
    CallsV Tryd.prog n_mix_last_answer_1 #[.agg #[.int .i64 g0, .int .i64 g1], .pointer (some r)] w fun v w' => v = .bool (g0 == rest[0]?.getD 0) ∧ At W w' (boxA r [.int .i64 wd, .slice sl.a sl.len sl.cap] :: lastL ls p N sr sq nw rs X R) := by
  refine mix_last_answer_1.lift ?_
  unfold mix_last_answer_1.main
  intro w1
  have h1 : At W w1 (boxA (newA w) (regC (g0, g1)) :: boxA r [.int .i64 wd, .slice sl.a sl.len sl.cap] :: lastL ls p N sr sq nw rs X R) := h.box 72 (regC (g0, g1))
  have hint := hI _ _ _ (h1.s.dropL (l := [_, _, _, _, _]))
  have hlen := hint.len
  obtain ⟨q, hq, hc⟩ := hint.get (i := 0) (by omega) (by omega)
  exact ⟨_, h1.s.cell0 0 rfl rfl, _, _, _, h1.s.cell 1 rfl 1 rfl, by omega, by omega, q, hq, _, hc, rfl, h1.drop.drew⟩
theorem clos2 (h : At W w (boxA r [.int .i64 wd, .slice sl.a sl.len sl.cap] :: lastL ls p N sr sq nw rs X R)) (hI : InA p N sl rest) (hl : 1 ≤ rest.length) (g0 g1 : Int) :
    CallsV Tryd.prog n_mix_last_answer_2 #[.agg #[.int .i64 g0, .int .i64 g1], .pointer (some r)] w fun v w' => v = .bool (g0 == rest[0]?.getD 0) ∧ At W w' (boxA r [.int .i64 wd, .slice sl.a sl.len sl.cap] :: lastL ls p N sr sq nw rs X R) := by
  refine mix_last_answer_2.lift ?_
  unfold mix_last_answer_2.main
  intro w1
  have h1 : At W w1 (boxA (newA w) (regC (g0, g1)) :: boxA r [.int .i64 wd, .slice sl.a sl.len sl.cap] :: lastL ls p N sr sq nw rs X R) := h.box 72 (regC (g0, g1))
  have hint := hI _ _ _ (h1.s.dropL (l := [_, _, _, _, _]))
  have hlen := hint.len
  obtain ⟨q, hq, hc⟩ := hint.get (i := 0) (by omega) (by omega)
  exact ⟨_, h1.s.cell0 0 rfl rfl, _, _, _, h1.s.cell 1 rfl 1 rfl, by omega, by omega, q, hq, _, hc, rfl, h1.drop.drew⟩

/-- the first register of an id; -1: there is nw -/
def idxOf (rs : List Rg) (id : Int) : Int := match rs.findIdx? (fun g => g.1 == id) with | some i => (i : Int) | .none => -1

theorem idxOf_none {rs : List Rg} {id : Int} (h : ∀ g ∈ rs, (g.1 == id) = false) : idxOf rs id = -1 := by
  unfold idxOf
  rw [List.findIdx?_eq_none_iff.2 h]
theorem idxOf_some {rs : List Rg} {id : Int} {k : Nat} (hk : k < rs.length) (hh : (rs[k].1 == id) = true) (h : ∀ g ∈ rs.take k, (g.1 == id) = false) : idxOf rs id = k := by
  unfold idxOf
  have : rs.findIdx? (fun g => g.1 == id) = some k := by
    rw [List.findIdx?_eq_some_iff_getElem]
    refine ⟨hk, hh, fun j hj => ?_⟩
    have := h rs[j] (List.mem_take_iff_getElem.2 ⟨j, by omega, rfl⟩)
    simp only [this]; decide
  rw [this]

theorem index1_at (h : At W w (boxA r [.int .i64 wd, .slice sl.a sl.len sl.cap] :: lastL ls p N sr sq nw rs X R)) (hI : InA p N sl rest) (hl : 1 ≤ rest.length) (hr : rs.length ≤ 1000000) :
    CallsV Tryd.prog n_slices_IndexFunc_Reg #[.slice sr.a sr.len sr.cap, .func (.func n_mix_last_answer_1) #[] #[.pointer (some r)]] w fun v w' => v = .int .i64 (idxOf rs (rest[0]?.getD 0)) ∧ At W w' (boxA r [.int .i64 wd, .slice sl.a sl.len sl.cap] :: lastL ls p N sr sq nw rs X R) := by
  refine slices_IndexFunc_Reg__mix_last_answer_1.lift ?_
  unfold slices_IndexFunc_Reg__mix_last_answer_1.main slices_IndexFunc_Reg__mix_last_answer_1.l1
  have hlen := (h.regs 2 rfl).len
  refine ⟨fun t w' => ∃ k : Nat, t = k ∧ k ≤ rs.length ∧ (∀ g ∈ rs.take k, (g.1 == rest[0]?.getD 0) = false) ∧ At W w' (boxA r [.int .i64 wd, .slice sl.a sl.len sl.cap] :: lastL ls p N sr sq nw rs X R), fun t _ => rs.length - t.toNat, ⟨0, rfl, by omega, by simp, h⟩, ?_⟩
  rintro _ w2 ⟨k, rfl, hk, hall, h2⟩
  unfold slices_IndexFunc_Reg__mix_last_answer_1.b1
  refine cond_d (p := ((k : Nat) : Int) < ((sr.len : Nat) : Int)) (fun hlt => ?_) fun hge => ?_
  · have hk' : k < rs.length := by omega
    obtain ⟨q, hq, c1, c2⟩ := (h2.regs 2 rfl).cell k rs[k] (List.getElem?_eq_getElem hk')
    refine ⟨by omega, hlt, q, hq, _, by rw [Int.toNat_natCast]; exact c1, _, by rw [Int.toNat_natCast]; exact c2, (clos1 h2 hI hl _ _).mono ?_⟩
    rintro _ w3 ⟨rfl, h3⟩
    refine ⟨_, rfl, cond_c (fun ht => ?_) fun hf => ?_⟩
    · exact ⟨by rw [idxOf_some hk' ht hall], h3⟩
    · rw [inc (by omega)]
      refine ⟨⟨rfl, rfl, rfl, k + 1, rfl, by omega, fun g hg => ?_, h3⟩, by (try dsimp only); omega⟩
      rw [List.take_succ_eq_append_getElem hk', List.mem_append, List.mem_singleton] at hg
      rcases hg with hg | rfl
      · exact hall g hg
      · exact hf
  · rw [List.take_of_length_le (by omega)] at hall
    exact ⟨by rw [idxOf_none hall], h2⟩
theorem index2_at (h : At W w (boxA r [.int .i64 wd, .slice sl.a sl.len sl.cap] :: lastL ls p N sr sq nw rs X R)) (hI : InA p N sl rest) (hl : 1 ≤ rest.length) (hr : rs.length ≤ 1000000) :
    CallsV Tryd.prog n_slices_IndexFunc_Reg #[.slice sr.a sr.len sr.cap, .func (.func n_mix_last_answer_2) #[] #[.pointer (some r)]] w fun v w' => v = .int .i64 (idxOf rs (rest[0]?.getD 0)) ∧ At W w' (boxA r [.int .i64 wd, .slice sl.a sl.len sl.cap] :: lastL ls p N sr sq nw rs X R) := by
  refine slices_IndexFunc_Reg__mix_last_answer_2.lift ?_
  unfold slices_IndexFunc_Reg__mix_last_answer_2.main slices_IndexFunc_Reg__mix_last_answer_2.l1
  have hlen := (h.regs 2 rfl).len
  refine ⟨fun t w' => ∃ k : Nat, t = k ∧ k ≤ rs.length ∧ (∀ g ∈ rs.take k, (g.1 == rest[0]?.getD 0) = false) ∧ At W w' (boxA r [.int .i64 wd, .slice sl.a sl.len sl.cap] :: lastL ls p N sr sq nw rs X R), fun t _ => rs.length - t.toNat, ⟨0, rfl, by omega, by simp, h⟩, ?_⟩
  rintro _ w2 ⟨k, rfl, hk, hall, h2⟩
  unfold slices_IndexFunc_Reg__mix_last_answer_2.b1
  refine cond_d (p := ((k : Nat) : Int) < ((sr.len : Nat) : Int)) (fun hlt => ?_) fun hge => ?_
  · have hk' : k < rs.length := by omega
    obtain ⟨q, hq, c1, c2⟩ := (h2.regs 2 rfl).cell k rs[k] (List.getElem?_eq_getElem hk')
    refine ⟨by omega, hlt, q, hq, _, by rw [Int.toNat_natCast]; exact c1, _, by rw [Int.toNat_natCast]; exact c2, (clos2 h2 hI hl _ _).mono ?_⟩
    rintro _ w3 ⟨rfl, h3⟩
    refine ⟨_, rfl, cond_c (fun ht => ?_) fun hf => ?_⟩
    · exact ⟨by rw [idxOf_some hk' ht hall], h3⟩
    · rw [inc (by omega)]
      refine ⟨⟨rfl, rfl, rfl, k + 1, rfl, by omega, fun g hg => ?_, h3⟩, by (try dsimp only); omega⟩
      rw [List.take_succ_eq_append_getElem hk', List.mem_append, List.mem_singleton] at hg
      rcases hg with hg | rfl
      · exact hall g hg
      · exact hf
  · rw [List.take_of_length_le (by omega)] at hall
    exact ⟨by rw [idxOf_none hall], h2⟩

theorem idxOf_has (rs : List Rg) (id : Int) : (idxOf rs id ≥ 0 ↔ hasId rs id = true) ∧ (idxOf rs id < 0 → ∀ nw, valT nw rs id = nw) ∧ (idxOf rs id ≥ 0 → ∃ g, rs[(idxOf rs id).toNat]? = some g ∧ ∀ nw, valT nw rs id = g.2) := by
  unfold idxOf hasId valT
  cases hf : rs.findIdx? (fun g => g.1 == id) with
  | none =>
    have h := List.findIdx?_eq_none_iff.1 hf
    refine ⟨⟨fun h => by simp at h, fun ha => ?_⟩, fun _ nw => ?_, fun h => by simp at h⟩
    · obtain ⟨g, hg, hh⟩ := List.any_eq_true.1 ha
      rw [h g hg] at hh; cases hh
    · rw [List.find?_eq_none.2 fun g hg => by rw [h g hg]; decide]; rfl
  | some i =>
    obtain ⟨hi, hp, hlt⟩ := List.findIdx?_eq_some_iff_getElem.1 hf
    refine ⟨⟨fun _ => List.any_eq_true.2 ⟨_, List.getElem_mem hi, hp⟩, fun _ => by simp⟩, fun h => by simp at h; omega, fun _ => ⟨rs[i], by simp [hi], fun nw => ?_⟩⟩
    have : rs.find? (fun g => g.1 == id) = some rs[i] := by
      rw [List.find?_eq_some_iff_getElem]
      exact ⟨hp, i, hi, rfl, fun j hj => by simpa using hlt j hj⟩
    rw [this]; rfl

/-! who has met -/

theorem met_at (h : At W w (lastL ls p N sr sq nw rs X R)) (hX : RqIn p N X Q) (hQ : RqOk Q) {k : Nat} (hk : k < Q.length) (h73 : (rq Q k).1 = 73) (hl : Q.length ≤ 1000000) :
    CallsV Tryd.prog n_mix_last_met #[.pointer (some ls), .int .i64 (k : Int)] w fun v w' => v = .int .i64 (metT nw Q k) ∧ At W w' (lastL ls p N sr sq nw rs X R) := by
  refine mix_last_met.lift ?_
  unfold mix_last_met.main
  have h0 := h.drew
  have hsq : sq.len = Q.length := by rw [(h.s.rowLen 2 rfl).1, hX.len]
  refine ⟨ls, rfl, _, h.s.cell 0 rfl 2 rfl, ls, rfl, _, _, _, h0.s.cell 0 rfl 1 rfl, ?_⟩
  unfold mix_last_met.l2
  have rqAt : ∀ {j : Nat}, j < Q.length → ∃ x, X[j]? = some x ∧ x.1 = (rq Q j).1 ∧ InA p N x.2 (rq Q j).2 := by
    intro j hj
    have hxl : j < X.length := by rw [hX.len]; exact hj
    refine ⟨X[j], List.getElem?_eq_getElem hxl, ?_⟩
    have := hX.at_ j _ _ (List.getElem?_eq_getElem hxl) (List.getElem?_eq_getElem hj)
    unfold rq
    rw [List.getElem?_eq_getElem hj]
    exact this
  have len2 : ∀ {j : Nat}, j < Q.length → (rq Q j).1 = 73 → (rq Q j).2.length = 2 := by
    intro j hj hw
    unfold rq at hw ⊢
    rw [List.getElem?_eq_getElem hj] at hw ⊢
    have hw : Q[j].1 = 73 := hw
    rcases hQ j _ (List.getElem?_eq_getElem hj) with h1 | h1 | h1
    · rw [h1] at hw; cases hw
    · exact h1.2
    · omega
  refine ⟨fun t w' => ∃ j : Nat, t.2.2 = j ∧ j ≤ Q.length ∧ t.1 = ((metL Q k j).length : Int) ∧ t.2.1 = (metL Q k j).getLast?.getD nw ∧ At W w' (lastL ls p N sr sq nw rs X R), fun t _ => Q.length - t.2.2.toNat, ⟨0, rfl, by omega, rfl, rfl, h0⟩, ?_⟩
  rintro ⟨_, _, _⟩ w1 ⟨j, rfl, hj, rfl, rfl, h1⟩
  show mix_last_met.b2 _ _ (some ls) (k : Int) sq ((sq.len : Nat) : Int) _ _ (j : Int) w1
  unfold mix_last_met.b2
  have hml := metL_len Q k j
  have skip : ¬ (j ≠ k ∧ (rq Q j).1 = 73 ∧ rqId Q j = rqId Q k) → metL Q k (j + 1) = metL Q k j := fun hn => by rw [metL_succ, if_neg hn]
  refine cond_d (p := ((j : Nat) : Int) < ((sq.len : Nat) : Int)) (fun hlt => ?_) fun hge => ?_
  · have hj' : j < Q.length := by omega
    obtain ⟨x, hx, x1, x2⟩ := rqAt hj'
    obtain ⟨q, hq, c1, c2⟩ := rqNow 2 rfl h1.s hx
    refine ⟨by omega, hlt, q, hq, _, by rw [Int.toNat_natCast]; exact c1, _, _, _, by rw [Int.toNat_natCast]; exact c2, ?_⟩
    intro w2
    obtain ⟨k1, k2⟩ := h1.tmp 170 (zs := [.int .i64 0, .slice none 0 0]) (cs := rqC x) rfl
    refine ⟨k1, ?_⟩
    intro w3
    have h3 : At W w3 (boxA (newA w1) (rqC x) :: lastL ls p N sr sq nw rs X R) := k2
    clear_value w3
    generalize newA w1 = rb at h3 ⊢
    have h4 : At W w3.drew (lastL ls p N sr sq nw rs X R) := h3.drop.drew
    refine cond_n (fun hne => ?_) fun heq => ?_
    · refine ⟨_, h3.s.cell0 0 rfl rfl, cond_e (fun hw => ?_) fun hw => ?_⟩
      · rw [x1] at hw
        have hl2 := len2 hj' hw
        have hint := x2 _ _ _ (h3.s.dropL (l := [_, _, _, _]))
        have hil := hint.len
        obtain ⟨q3, hq3, hc3⟩ := hint.get (i := 0) (by omega) (by omega)
        obtain ⟨y, hy, y1, y2⟩ := rqAt hk
        have hint2 := y2 _ _ _ (h3.s.dropL (l := [_, _, _, _]))
        have hil2 := hint2.len
        have hlk := len2 hk h73
        obtain ⟨q5, hq5, c5, c6⟩ := rqNow 3 rfl h3.s hy
        obtain ⟨q4, hq4, hc4⟩ := hint2.get (i := 0) (by omega) (by omega)
        refine ⟨_, _, _, h3.s.cell 0 rfl 1 rfl, by omega, by omega, q3, hq3, _, hc3, ls, rfl, _, _, _, h3.s.cell 1 rfl 1 rfl, by omega, by omega, q5, hq5, _, _, _, by rw [Int.toNat_natCast]; exact c6, by omega, by omega, q4, hq4, _, hc4, cond_e (fun hid => ?_) fun hid => ?_⟩
        · have hid : rqId Q j = rqId Q k := hid
          have hm : metL Q k (j + 1) = metL Q k j ++ [rqV Q j] := by rw [metL_succ, if_pos ⟨fun e => hne (by rw [e]), hw, hid⟩]
          unfold mix_last_met.c3
          have h3' := h3.drew
          have hint3 := x2 _ _ _ (h3'.s.dropL (l := [_, _, _, _]))
          obtain ⟨q6, hq6, hc6⟩ := hint3.get (i := 1) (by omega) (by omega)
          dsimp only
          refine ⟨_, _, _, h3'.s.cell 0 rfl 1 rfl, by omega, by omega, q6, hq6, _, hc6, ?_⟩
          rw [inc (by omega), inc (by omega)]
          refine ⟨⟨rfl, rfl, rfl, rfl, j + 1, rfl, by omega, by rw [hm, List.length_append]; rfl, by rw [hm]; simp; rfl, h4⟩, by (try dsimp only); omega⟩
        · rw [inc (by omega)]
          have hm := skip (fun h => hid h.2.2)
          exact ⟨⟨rfl, rfl, rfl, rfl, j + 1, rfl, by omega, by rw [hm], by rw [hm], h4⟩, by (try dsimp only); omega⟩
      · rw [inc (by omega)]
        have hm := skip (fun h => hw (by rw [x1]; exact h.2.1))
        exact ⟨⟨rfl, rfl, rfl, rfl, j + 1, rfl, by omega, by rw [hm], by rw [hm], h4⟩, by (try dsimp only); omega⟩
    · rw [inc (by omega)]
      have hm := skip (fun h => h.1 (by omega))
      exact ⟨⟨rfl, rfl, rfl, rfl, j + 1, rfl, by omega, by rw [hm], by rw [hm], h4⟩, by (try dsimp only); omega⟩
  · have hjl : j = Q.length := by omega
    subst hjl
    unfold mix_last_met.c1
    unfold metT
    refine cond_n (fun hne => ?_) fun heq => ?_
    · rw [if_neg (by omega)]
      exact ⟨ls, rfl, _, h1.s.cell 0 rfl 2 rfl, rfl, h1⟩
    · rw [if_pos (by omega)]
      exact ⟨rfl, h1⟩
end

end Go.Proofs.YtoclhecldmahiaaDoor

/-
  What the last server does with a list; contract.
-/
set_option linter.unusedVariables false
set_option linter.unusedSimpArgs false
namespace Go.Proofs.YtoclhecldmahiaaDoor
open Go.Lf Go.RowKit

def doErr (T : List Tm) (rs : List Rg) (l : List Int) : Int := if ¬ ((∀ r ∈ rs, inT T r.1 ∧ inT T r.2) ∧ ∀ x ∈ l, inT T x) then 8 else if 100 < l.length then 2 else 0
def wordT (T : List Tm) : List Tm × Int × Int := put T ⟨2, 0, []⟩
def doT (T : List Tm) (rs : List Rg) (l : List Int) : List Rg × List Int := doS (wordT T).2.1 (l.map (rqOf (wordT T).1)) rs l.length

theorem wordT_good {T : List Tm} (hl : T.length ≤ 1000000) : ∃ x : Nat, (wordT T).2.1 = x ∧ (wordT T).2.2 = 0 ∧ (wordT T).1[x]? = some ⟨2, 0, []⟩ ∧ Grown T (wordT T).1 1 := by
  obtain ⟨x, h1, h2, h3⟩ := putAt (err_word (T := T) (n := 0) (by omega)) (by omega)
  exact ⟨x, h1, h2, h3, Grown.put T (by simp)⟩

theorem rqsOk (T : List Tm) (l : List Int) : RqOk (l.map (rqOf T)) := by
  intro j q hq
  rw [List.getElem?_map] at hq
  cases hl : l[j]? with
  | none => rw [hl] at hq; cases hq
  | some i =>
    rw [hl] at hq
    obtain rfl := Option.some.inj hq
    exact rqOf_kind T i

section
variable {W w w' : World} {L R : List Asn} {p ls r : Addr} {N : Nds} {sr sq sl : Sl} {nw wd : Int} {rs : List Rg} {X : List (Int × Sl)} {Q : List Rq} {rest : List Int} {T : List Tm}

theorem Regs.some {s : Sl} (h : Regs w s rs) : s.a = none → rs = [] := fun hn => by
  cases rs with
  | nil => rfl
  | cons g rs =>
    obtain ⟨q, hq, _⟩ := h.cell 0 g rfl
    rw [hn] at hq; cases hq

theorem rq_more (k : Nat) {s : Sl} (hk : L[k]? = some (rqA s X)) (h : At W w L) (x : Int × Sl) (hl : X.length ≤ 1000000) :
    ∃ (s' : Sl) (w' : World), (builtin .append #[166, 166] 166 #[] #[.slice s.a s.len s.cap, .slice (some (newA w)) 1 1]).run Tryd.prog (w.alloc (.cells #[.int .i64 x.1, .slice x.2.a x.2.len x.2.cap] 170)) = .ok (.value (.slice s'.a s'.len s'.cap)) w' ∧ At W w' (L.set k (rqA s' (X ++ [x]))) := by
  obtain ⟨i, hi, hz, hsz, hby⟩ := t170
  have hb1 := below_alloc w (.cells #[.int .i64 x.1, .slice x.2.a x.2.len x.2.cap] 170)
  have h1 := h.s.keep hb1
  obtain ⟨s', w', hr, _, h2, hb2⟩ := Sep.append (t := 166) (ty := 166) (c := 1) (m := 1) Tryd.underlying166 hi hz hsz hby rfl (by omega) k hk h1 (a := newA w) (news := rqC x) rfl
    (fun j u hu => by rw [← hu]; exact (cell_new w #[.int .i64 x.1, .slice x.2.a x.2.len x.2.cap] 170 j).trans (by simp [rqC]))
    (by intro u hu; simp [rqC] at hu; rcases hu with rfl | rfl <;> rfl) (by unfold maxLen; omega) (by omega) (by omega)
  refine ⟨s', w', hr, h.go ?_ ((hb1.mono h.s.le).trans hb2)⟩
  unfold rqA
  rw [flat_app, flat_one, List.length_append]
  exact h2

theorem answer_at (h : At W w (lastL ls p N sr sq nw rs X R)) (hX : RqIn p N X Q) (hQ : RqOk Q) {k : Nat} (hk : k < Q.length) (hl : Q.length ≤ 1000000) (hr : rs.length ≤ 100000) :
    CallsV Tryd.prog n_mix_last_answer #[.pointer (some ls), .int .i64 (k : Int)] w fun v w' => ∃ sr' : Sl, v = .int .i64 (ansT nw Q rs k).2 ∧ At W w' (lastL ls p N sr' sq nw (ansT nw Q rs k).1 X R) := by
  refine mix_last_answer.lift ?_
  unfold mix_last_answer.main
  have hsq : sq.len = Q.length := by rw [(h.s.rowLen 2 rfl).1, hX.len]
  have hxl : k < X.length := by rw [hX.len]; exact hk
  obtain ⟨x, hx⟩ : ∃ x, X[k]? = some x := ⟨_, List.getElem?_eq_getElem hxl⟩
  obtain ⟨x1, x2⟩ := hX.at_ k _ _ hx (List.getElem?_eq_getElem hk)
  have erq : rq Q k = Q[k] := by unfold rq; rw [List.getElem?_eq_getElem hk]; rfl
  have hkind := hQ k _ (List.getElem?_eq_getElem hk)
  rw [← erq] at x1 x2 hkind
  obtain ⟨q, hq, c1, c2⟩ := rqNow 2 rfl h.s hx
  refine ⟨ls, rfl, _, _, _, h.s.cell 0 rfl 1 rfl, by omega, by omega, q, hq, _, by rw [Int.toNat_natCast]; exact c1, _, _, _, by rw [Int.toNat_natCast]; exact c2, ?_⟩
  intro w2
  obtain ⟨k1, k2⟩ := h.tmp 170 (zs := [.int .i64 0, .slice none 0 0]) (cs := rqC x) rfl
  refine ⟨k1, ?_⟩
  intro w3
  have h3 : At W w3 (boxA (newA w) [.int .i64 x.1, .slice x.2.a x.2.len x.2.cap] :: lastL ls p N sr sq nw rs X R) := k2
  clear_value w3
  generalize newA w = rb at h3 ⊢
  -- what stands in a register
  have c3 : ∀ (w' : World) (sr' : Sl) (rs' : List Rg) (rs0 : List Rg), rs'.length ≤ 200000 → At W w' (boxA rb [.int .i64 x.1, .slice x.2.a x.2.len x.2.cap] :: lastL ls p N sr' sq nw rs' X R) → 1 ≤ (rq Q k).2.length → ansT nw Q rs k = (rs', valT nw rs' (rqId Q k)) →
      mix_last_answer.c3 (fun v w' => ∃ sr' : Sl, v = .int .i64 (ansT nw Q rs k).2 ∧ At W w' (lastL ls p N sr' sq nw (ansT nw Q rs k).1 X R)) (some ls) rb w' := by
    intro w' sr' rs' _ hrl h' hlen he
    unfold mix_last_answer.c3
    refine ⟨ls, rfl, _, _, _, h'.s.cell0 1 rfl rfl, (index2_at h' x2 hlen (by omega)).mono ?_⟩
    rintro _ w4 ⟨rfl, h4⟩
    have eid : (rq Q k).2[0]?.getD 0 = rqId Q k := rfl
    rw [eid]
    obtain ⟨i1, i2, i3⟩ := idxOf_has rs' (rqId Q k)
    rw [he]
    refine ⟨_, rfl, cond_d (fun hneg => ?_) fun hpos => ?_⟩
    · exact ⟨ls, rfl, _, h4.s.cell 1 rfl 2 rfl, sr', by rw [i2 hneg], h4.drop⟩
    · obtain ⟨g, hg, hv⟩ := i3 (by omega)
      obtain ⟨q, hq, d1, d2⟩ := (h4.regs 2 rfl).cell _ g hg
      have hglt := (List.getElem?_eq_some_iff.1 hg).1
      have hsl : sr'.len = rs'.length := (h4.regs 2 rfl).len
      exact ⟨ls, rfl, _, _, _, h4.s.cell0 1 rfl rfl, by omega, by omega, q, hq, _, d2, sr', by rw [hv], h4.drop⟩
  refine ⟨_, h3.s.cell0 0 rfl rfl, ?_⟩
  rw [x1]
  refine cond_e (fun h71 => ?_) fun h71 => cond_e (fun h72 => ?_) fun h72 => cond_e (fun h73 => ?_) fun h73 => ?_
  · have hl2 : (rq Q k).2.length = 2 := by
      rcases hkind with hh | hh | hh
      · rw [hh] at h71; cases h71
      · exact hh.2
      · omega
    unfold mix_last_answer.c4
    refine ⟨ls, rfl, _, _, _, h3.s.cell0 1 rfl rfl, ?_⟩
    obtain ⟨i1, _, _⟩ := idxOf_has rs (rqId Q k)
    refine CallsV.mono (slices_ContainsFunc_Reg__mix_last_answer_1.lift (R := fun v w' => v = .bool (hasId rs (rqId Q k)) ∧ At W w' (boxA rb [.int .i64 x.1, .slice x.2.a x.2.len x.2.cap] :: lastL ls p N sr sq nw rs X R)) ?_) ?_
    · unfold slices_ContainsFunc_Reg__mix_last_answer_1.main
      refine (index1_at h3 x2 (by omega) (by omega)).mono ?_
      rintro _ w4 ⟨rfl, h4⟩
      refine ⟨_, rfl, ?_, h4⟩
      congr 1
      cases hh : hasId rs (rqId Q k) with
      | true => exact decide_eq_true (i1.2 hh)
      | false => exact decide_eq_false (fun hn => by rw [i1.1 hn] at hh; cases hh)
    · rintro _ w4 ⟨rfl, h4⟩
      refine ⟨_, rfl, cond_not (fun hf => ?_) fun ht => ?_⟩
      · have h5 := h4.drew
        have hint := x2 _ _ _ (h5.s.dropL (l := [_, _, _, _]))
        have hil := hint.len
        obtain ⟨q0, hq0, hc0⟩ := hint.get (i := 0) (by omega) (by omega)
        obtain ⟨q1, hq1, hc1⟩ := hint.get (i := 1) (by omega) (by omega)
        have cells : ∀ {y : World}, At W y (boxA rb [.int .i64 x.1, .slice x.2.a x.2.len x.2.cap] :: lastL ls p N sr sq nw rs X R) → y.cell? ls = some (.slice sr.a sr.len sr.cap) ∧ y.cell? (rb.add 1) = some (.slice x.2.a x.2.len x.2.cap) ∧ y.cell? (q0.add (0 : Int).toNat) = some (.int .i64 (rqId Q k)) ∧ y.cell? (q1.add (1 : Int).toNat) = some (.int .i64 (rqV Q k)) := by
          intro y hy
          have hint := x2 _ _ _ (hy.s.dropL (l := [_, _, _, _]))
          obtain ⟨q0', hq0', hc0'⟩ := hint.get (i := 0) (by omega) (by omega)
          obtain ⟨q1', hq1', hc1'⟩ := hint.get (i := 1) (by omega) (by omega)
          rw [hq0] at hq0'
          rw [hq1] at hq1'
          obtain rfl := Option.some.inj hq0'
          obtain rfl := Option.some.inj hq1'
          exact ⟨hy.s.cell0 1 rfl rfl, hy.s.cell 0 rfl 1 rfl, hc0', hc1'⟩
        refine ⟨fun y => y.cell? ls = some (.slice sr.a sr.len sr.cap) ∧ y.cell? (rb.add 1) = some (.slice x.2.a x.2.len x.2.cap) ∧ y.cell? (q0.add (0 : Int).toNat) = some (.int .i64 (rqId Q k)) ∧ y.cell? (q1.add (1 : Int).toNat) = some (.int .i64 (rqV Q k)), cells h5, ls, rfl, _, _, _, fun y hy => hy.1, _, _, _, fun y hy => hy.2.1, by omega, by omega, q0, hq0, _, fun y hy => hy.2.2.1, _, _, _, fun y hy => hy.2.1, by omega, by omega, q1, hq1, _, fun y hy => hy.2.2.2, ?_⟩
        intro w6
        obtain ⟨s7, w7, hr7, h7⟩ := reg_more 2 rfl h5 (rqId Q k, rqV Q k) (by omega)
        refine ⟨cells (h5.keep (below_alloc _ _)), _, _, _, _, hr7, ls, rfl, ?_⟩
        have h7 : At W w7 (boxA rb [.int .i64 x.1, .slice x.2.a x.2.len x.2.cap] :: boxA ls [.slice sr.a sr.len sr.cap, .slice sq.a sq.len sq.cap, .int .i64 nw] :: regA s7 (rs ++ [(rqId Q k, rqV Q k)]) :: rqA sq X :: arA p N :: R) := h7
        obtain ⟨h8, hb8⟩ := h7.s.set0 1 rfl (by simp) (.slice s7.a s7.len s7.cap)
        refine ⟨h7.s.wr0 1 rfl (by simp), c3 _ s7 (rs ++ [(rqId Q k, rqV Q k)]) rs (by simp; omega) (h7.go h8 hb8) (by omega) ?_⟩
        unfold ansT
        rw [if_pos h71, hf]
        rfl
      · refine c3 w4 sr rs rs (by omega) h4 (by omega) ?_
        unfold ansT
        rw [if_pos h71, ht]
        rfl
  · have hl1 : 1 ≤ (rq Q k).2.length := by
      rcases hkind with hh | hh | hh
      · rw [hh] at h72; cases h72
      · omega
      · omega
    refine c3 w3 sr rs rs (by omega) h3 hl1 ?_
    unfold ansT
    rw [if_neg h71, if_pos h72]
  · unfold mix_last_answer.c2
    refine (met_at h3.drop hX hQ hk h73 hl).mono ?_
    rintro _ w4 ⟨rfl, h4⟩
    have e : ansT nw Q rs k = (rs, metT nw Q k) := by unfold ansT; rw [if_neg h71, if_neg h72, if_pos h73]
    exact ⟨_, rfl, sr, by rw [e], by rw [e]; exact h4⟩
  · unfold mix_last_answer.c1
    have e : ansT nw Q rs k = (rs, nw) := by unfold ansT; rw [if_neg h71, if_neg h72, if_neg h73]
    exact ⟨ls, rfl, _, h3.s.cell 1 rfl 2 rfl, sr, by rw [e], by rw [e]; exact h3.drop⟩

set_option maxRecDepth 100000 in
theorem do_at (h : At W w (arT p T :: R)) {s1 s2 : Sl} {l : List Int} (hrl : rs.length ≤ 10000) (hll : l.length ≤ 1000000) (hTl : T.length ≤ 1000000) (hR : ∀ L w', At W w' (L ++ R) → Regs w' s1 rs) (hL : ∀ L w', At W w' (L ++ R) → Ints .i64 w' s2 l) :
    CallsV Tryd.prog n_mix_Do #[.pointer (some p), .slice s1.a s1.len s1.cap, .slice s2.a s2.len s2.cap] w fun v w' => ∃ t1 t2 : Sl, v = .tuple #[.slice t1.a t1.len t1.cap, .slice t2.a t2.len t2.cap, .int .i64 (doErr T rs l)] ∧
      (doErr T rs l = 0 → At W w' (regA t1 (doT T rs l).1 :: ownA t2 (doT T rs l).2 :: arT p (wordT T).1 :: R)) ∧ (doErr T rs l ≠ 0 → t1 = ⟨none, 0, 0⟩ ∧ t2 = ⟨none, 0, 0⟩ ∧ At W w' (arT p T :: R)) := by
  refine mix_Do.lift ?_
  unfold mix_Do.main
  have hlen := (hL [_] w h).len
  have bad : ∀ {e : Int} {w' : World}, doErr T rs l = e → e ≠ 0 → At W w' (arT p T :: R) → ∃ t1 t2 : Sl, (Value.tuple #[.slice none 0 0, .slice none 0 0, .int .i64 e]) = .tuple #[.slice t1.a t1.len t1.cap, .slice t2.a t2.len t2.cap, .int .i64 (doErr T rs l)] ∧
      (doErr T rs l = 0 → At W w' (regA t1 (doT T rs l).1 :: ownA t2 (doT T rs l).2 :: arT p (wordT T).1 :: R)) ∧ (doErr T rs l ≠ 0 → t1 = ⟨none, 0, 0⟩ ∧ t2 = ⟨none, 0, 0⟩ ∧ At W w' (arT p T :: R)) := by
    intro e w' he hne h'
    rw [he]
    exact ⟨⟨none, 0, 0⟩, ⟨none, 0, 0⟩, rfl, fun h => absurd h hne, fun _ => ⟨rfl, rfl, h'⟩⟩
  refine (mixhas_at h (by omega) hR).mono ?_
  rintro _ w1 ⟨rfl, h1⟩
  refine ⟨_, rfl, cond_not (fun hf => ?_) fun ht => ?_⟩
  · exact bad (by unfold doErr; rw [if_pos (fun h => of_decide_eq_false hf h.1)]) (by decide) h1
  have ht := of_decide_eq_true ht
  refine (has_at h1 (hL [_] w1 h1)).mono ?_
  rintro _ _ ⟨rfl, rfl⟩
  refine ⟨_, rfl, cond_not (fun hf => ?_) fun hi => ?_⟩
  · exact bad (by unfold doErr; rw [if_pos (fun h => of_decide_eq_false hf h.2)]) (by decide) h1
  have hi := of_decide_eq_true hi
  unfold mix_Do.c6
  refine cond_d (fun h100 => ?_) fun h100 => ?_
  · exact bad (by unfold doErr; rw [if_neg (fun h => h ⟨ht, hi⟩), if_pos (by omega)]) (by decide) h1
  have he0 : doErr T rs l = 0 := by unfold doErr; rw [if_neg (fun h => h ⟨ht, hi⟩), if_neg (by omega)]
  rw [he0]
  unfold mix_Do.c5
  refine (mk0 2 0 h1 (by omega)).mono ?_
  rintro _ w2 ⟨rfl, h2⟩
  obtain ⟨nx, n1, n2, n3, ng⟩ := wordT_good hTl
  have e2 : (put T ⟨2, 0, []⟩).2.2 = 0 := n2
  refine ⟨_, _, rfl, ?_⟩
  rw [e2]
  refine cond_n (fun h => absurd rfl h) fun _ => ?_
  obtain ⟨nw, hnw⟩ : ∃ nw, nw = (wordT T).2.1 := ⟨_, rfl⟩
  have e1 : (put T ⟨2, 0, []⟩).2.1 = nw := hnw.symm
  rw [e1]
  have h2 : At W w2 (arT p (wordT T).1 :: R) := h2
  refine (clone_regs h2 (hR [_] w2 h2) (hR [_] w2 h2).some (by omega)).mono ?_
  rintro _ w3 ⟨s3, rfl, h3⟩
  refine ⟨_, _, _, rfl, ?_⟩
  intro w4
  have h4 : At W w4 (boxA (newA w3) [.slice s3.a s3.len s3.cap, .slice none 0 0, .int .i64 nw] :: regA s3 rs :: arT p (wordT T).1 :: R) := h3.box 168 [.slice s3.a s3.len s3.cap, .slice none 0 0, .int .i64 nw]
  clear_value w4
  generalize newA w3 = ls at h4 ⊢
  obtain ⟨N, hN, h5s⟩ := Sep.arOut (h4.front 2 rfl).s
  have h5 : At W w4 (arA p N :: boxA ls [.slice s3.a s3.len s3.cap, .slice none 0 0, .int .i64 nw] :: regA s3 rs :: R) := h4.go h5s (Below.refl _ _)
  have h6 : At W w4 (lastL ls p N s3 ⟨none, 0, 0⟩ nw rs [] R) := by
    have := h5.go (h5.s.rowNil 170 2) (Below.refl _ _)
    have this : At W w4 (rqA ⟨none, 0, 0⟩ [] :: arA p N :: boxA ls [.slice s3.a s3.len s3.cap, .slice none 0 0, .int .i64 nw] :: regA s3 rs :: R) := this
    exact (this.front 3 rfl).front 3 rfl
  clear h5 h5s h4
  have ext := ng.ext
  have htw : ∀ x ∈ l, inT (terms N) x := fun x hx => by rw [hN]; exact ext.inT (hi x hx)
  unfold mix_Do.l4
  refine ⟨fun t w' => ∃ (i : Nat) (sq : Sl) (X : List (Int × Sl)), t = i ∧ i ≤ l.length ∧ RqIn p N X ((l.take i).map (rqOf (wordT T).1)) ∧ At W w' (lastL ls p N s3 sq nw rs X R), fun t _ => l.length - t.toNat, ⟨0, ⟨none, 0, 0⟩, [], rfl, by omega, ⟨rfl, by simp⟩, h6⟩, ?_⟩
  clear h6
  rintro _ w5 ⟨i, sq, X, rfl, hi', hX, h5⟩
  unfold mix_Do.b4
  have hXl : X.length = i := by rw [hX.len, List.length_map, List.length_take]; omega
  refine cond_d (p := ((i : Nat) : Int) < ((s2.len : Nat) : Int)) (fun hlt => ?_) fun hge => ?_
  · have hil : i < l.length := by omega
    obtain ⟨q, hq, hc⟩ := (hL [_, _, _, _] w5 (h5.go (Sep.comm (l := [_, _, _, _]) (l' := R) (R := []) (by rw [List.append_nil]; exact h5.s) |> fun hs => by rw [List.append_nil] at hs; exact hs.perm List.perm_append_comm) (Below.refl _ _))).get (i := (i : Int)) (by omega) hlt
    rw [Int.toNat_natCast, List.getElem?_eq_getElem hil, Option.getD_some] at hc
    have h6 := h5.drew
    refine ⟨by omega, hlt, q, hq, _, by rw [Int.toNat_natCast]; exact hc, fun y => y.cell? (ls.add 1) = some (.slice sq.a sq.len sq.cap), h6.s.cell 0 rfl 1 rfl, ls, rfl, _, _, _, fun y hy => hy, ?_⟩
    refine (request_at (h6.front 3 rfl) (htw _ (List.getElem_mem hil))).mono ?_
    rintro _ w7 ⟨sl, rfl, hin, h7⟩
    have h7 : At W w7 (lastL ls p N s3 sq nw rs X R) := ((h7.front 3 rfl).front 3 rfl).front 3 rfl
    refine ⟨_, _, _, _, rfl, h7.s.cell 0 rfl 1 rfl, ?_⟩
    intro w8
    obtain ⟨s9, w9, hr9, h9⟩ := rq_more 2 rfl h7 ((rqOf (terms N) l[i]).1, sl) (by omega)
    refine ⟨(h7.keep (below_alloc _ _)).s.cell 0 rfl 1 rfl, _, _, _, _, hr9, ls, rfl, ?_⟩
    have h9 : At W w9 (boxA ls [.slice s3.a s3.len s3.cap, .slice sq.a sq.len sq.cap, .int .i64 nw] :: regA s3 rs :: rqA s9 (X ++ [((rqOf (terms N) l[i]).1, sl)]) :: arA p N :: R) := h9
    obtain ⟨h10, hb10⟩ := h9.s.set 0 rfl (j := 1) (by simp) (.slice s9.a s9.len s9.cap)
    refine ⟨h9.s.wr 0 rfl (by simp), ?_⟩
    rw [inc (by omega)]
    refine ⟨⟨rfl, rfl, rfl, rfl, rfl, rfl, i + 1, s9, X ++ [((rqOf (terms N) l[i]).1, sl)], rfl, by omega, ⟨by simp [hXl]; omega, fun j x q hx hq => ?_⟩, h9.go h10 hb10⟩, by (try dsimp only); omega⟩
    rw [List.take_succ_eq_append_getElem hil, List.map_append, List.getElem?_append] at hq
    rw [List.getElem?_append] at hx
    have hml : ((l.take i).map (rqOf (wordT T).1)).length = i := by rw [List.length_map, List.length_take]; omega
    split at hx
    · rename_i hjl
      rw [if_pos (by omega)] at hq
      exact hX.at_ j x q hx hq
    · rename_i hjl
      have hjl2 := (List.getElem?_eq_some_iff.1 hx).1
      simp at hjl2
      have e : j = i := by omega
      subst e
      rw [if_neg (by omega)] at hq
      rw [hXl, Nat.sub_self] at hx
      rw [hml, Nat.sub_self] at hq
      simp at hx hq
      subst hx hq
      rw [hN] at hin ⊢
      exact ⟨rfl, hin⟩
  · have hil : i = l.length := by omega
    subst hil
    rw [List.take_length] at hX
    obtain ⟨Q, hQ⟩ : ∃ Q, Q = l.map (rqOf (wordT T).1) := ⟨_, rfl⟩
    have hdo : doT T rs l = doS nw Q rs l.length := by rw [hnw, hQ]; rfl
    have hQl : Q.length = l.length := by rw [hQ, List.length_map]
    have hQok : RqOk Q := by rw [hQ]; exact rqsOk _ _
    rw [← hQ] at hX
    rw [hdo]
    unfold mix_Do.c3 mix_Do.l2
    refine ⟨fun t w' => ∃ (k : Nat) (sr : Sl), t.2 = k ∧ k ≤ l.length ∧ At W w' (ownA t.1 (doS nw Q rs k).2 :: lastL ls p N sr sq nw (doS nw Q rs k).1 X R), fun t _ => l.length - t.2.toNat, ⟨0, s3, rfl, by omega, h5.nil⟩, ?_⟩
    clear h5
    rintro ⟨so, _⟩ w6 ⟨k, sr, rfl, hk, h6⟩
    show mix_Do.b2 _ _ (some ls) ((s2.len : Nat) : Int) so (k : Int) w6
    unfold mix_Do.b2
    obtain ⟨d1, d2⟩ := doS_len nw Q rs k
    have h6 : At W w6 (ownA so (doS nw Q rs k).2 :: lastL ls p N sr sq nw (doS nw Q rs k).1 X R) := h6
    have h6' : At W w6 (lastL ls p N sr sq nw (doS nw Q rs k).1 X (ownA so (doS nw Q rs k).2 :: R)) := ((((h6.front 4 rfl).front 4 rfl).front 4 rfl).front 4 rfl)
    refine cond_d (p := ((k : Nat) : Int) < ((s2.len : Nat) : Int)) (fun hlt => ?_) fun hge => ?_
    · refine (answer_at h6' hX hQok (by omega) (by omega) (by omega)).mono ?_
      rintro _ w7 ⟨sr', rfl, h7⟩
      refine ⟨_, rfl, ?_⟩
      intro w8
      obtain ⟨s9, w9, hr9, h9⟩ := more_at 4 rfl h7 (ansT nw Q (doS nw Q rs k).1 k).2 (by omega)
      refine ⟨_, _, _, _, hr9, ?_⟩
      rw [inc (by omega)]
      have h9 : At W w9 (lastL ls p N sr' sq nw (doS nw Q rs (k + 1)).1 X (ownA s9 (doS nw Q rs (k + 1)).2 :: R)) := h9
      exact ⟨⟨rfl, rfl, k + 1, sr', rfl, by omega, h9.front 4 rfl⟩, by (try dsimp only); omega⟩
    · have hkl : k = l.length := by omega
      subst hkl
      unfold mix_Do.c1
      refine ⟨ls, rfl, _, _, _, h6.s.cell0 1 rfl rfl, sr, so, rfl, fun _ => ?_, fun h => absurd rfl h⟩
      have h7 : At W w6 (arA p N :: regA sr (doS nw Q rs l.length).1 :: ownA so (doS nw Q rs l.length).2 :: R) := by
        have h7 := h6.front 4 rfl
        have h7 : At W w6 (arA p N :: ownA so (doS nw Q rs l.length).2 :: boxA ls [.slice sr.a sr.len sr.cap, .slice sq.a sq.len sq.cap, .int .i64 nw] :: regA sr (doS nw Q rs l.length).1 :: rqA sq X :: R) := h7
        have h8 := (h7.front 2 rfl).drop
        have h8 : At W w6 (arA p N :: ownA so (doS nw Q rs l.length).2 :: regA sr (doS nw Q rs l.length).1 :: rqA sq X :: R) := h8
        have h9 := (h8.front 3 rfl).drop
        have h9 : At W w6 (arA p N :: ownA so (doS nw Q rs l.length).2 :: regA sr (doS nw Q rs l.length).1 :: R) := h9
        exact h9.perm (List.Perm.cons _ (List.Perm.swap _ _ _))
      have h8 : At W w6 (arT p (wordT T).1 :: regA sr (doS nw Q rs l.length).1 :: ownA so (doS nw Q rs l.length).2 :: R) := h7.go (Sep.arIn h7.s hN) (Below.refl _ _)
      exact (h8.front 2 rfl).front 2 rfl
end

end Go.Proofs.YtoclhecldmahiaaDoor
