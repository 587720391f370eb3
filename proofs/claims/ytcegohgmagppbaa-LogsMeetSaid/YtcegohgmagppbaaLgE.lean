/-
  Logs: slices.Insert of one log.
-/
import Derived.Test.YtcegohgmagppbaaLgA
set_option linter.unusedVariables false
set_option linter.unusedVariables false
set_option linter.unusedSimpArgs false
namespace Go.Proofs.Ytcegohgmagppbaa
open Go.Lf Go.RowKit

theorem Sep.rowShape {B : Nat} {w : World} {l : List Asn} (k : Nat) {e : TypeId} {size : Nat} {s : Sl} {n : Nat} {vs : List Value} (hk : l[k]? = some (rowA e size s n vs)) (h : Sep B w l) {q : Addr} (hq : s.a = some q) : w.shape? q.block = some (e, s.cap * size) ∧ q.block < w.heap.size := by
  obtain ⟨F, hr, hF, back⟩ := h.at k hk
  rcases hr.1.2 with ⟨h1, h0⟩ | ⟨g, cap, cur, h1, hB, hg, hnc, hcm, hcs, htk⟩
  · simp only [Value.slice.injEq] at h1
    rw [hq] at h1; cases h1.1
  simp only [Value.slice.injEq] at h1
  obtain ⟨h1, hln, hcp⟩ := h1
  rw [hq] at h1
  obtain rfl := Option.some.inj h1
  refine ⟨?_, (Array.getElem?_eq_some_iff.1 hg).1⟩
  unfold World.shape?
  rw [hg, hcp]
  show some (e, cur.size) = _
  rw [hcs]

theorem size_log (w : World) : (Go.sizeOf 45).run Try.prog w = .ok 3 w := by
  obtain ⟨i, hi, hz, hsz, hby⟩ := info_log
  rw [← hsz]; exact run_sizeOf' hi w

theorem over_spec {w0 : World} {cs : Array Value} {T : TypeId} {b : Addr} {n la ca lb cb : Nat} (hb : b.block < w0.heap.size) (hs : (w0.alloc (.cells cs T)).shape? b.block = some (45, n)) (hn : n ≠ 0) :
    (callFunc n_slices_overlaps_Log #[.slice (some (newA w0)) la ca, .slice (some b) lb cb]).run Try.prog (w0.alloc (.cells cs T)) = .ok (.value (.bool false)) (w0.alloc (.cells cs T)) := by
  have h1 := run_callFunc_extern (P := Try.prog) (f := n_slices_overlaps_Log) (fn := Try.f42) (e := Extern.SlicesOverlaps.overlaps #[24, 24] #[4]) Try.func42 (by kernel_rfl) (by kernel_rfl) (by kernel_rfl) (by kernel_rfl) #[.slice (some (newA w0)) la ca, .slice (some b) lb cb] (w0.alloc (.cells cs T))
  rw [h1]
  have hnew : (w0.alloc (.cells cs T)).shape? (newA w0).block = some (T, cs.size) := by
    show (match (w0.alloc (.cells cs T)).heap[w0.heap.size]? with | some (.cells c elem _) => some (elem, c.size) | _ => none) = _
    rw [heap_alloc_new]
  have hfr : ∀ o, (w0.alloc (.cells cs T)).frozen? { block := w0.heap.size, off := o } = false := fun o => World.frozen?_alloc_at _ _ _ _ rfl
  rw [Go.Lib.run_overlaps_apart (P := Try.prog) _ 24 4 45 Try.underlying24 3 size_log (newA w0) b la ca lb cb (by show w0.heap.size ≠ _; omega) T 45 cs.size n hnew hs hn (hfr 0) (hfr _)]
  rfl

end Go.Proofs.Ytcegohgmagppbaa

/-
  Logs: slices.Insert of one log, whole.
-/
set_option linter.unusedVariables false
set_option linter.unusedSimpArgs false
namespace Go.Proofs.Ytcegohgmagppbaa
open Go.Lf Go.RowKit

theorem flat_take {L : List LS} {i : Nat} (hi : i ≤ L.length) : (flat lgV L).take (i * 3) = flat lgV (L.take i) := by
  conv => lhs; rw [← List.take_append_drop i L, flat_app]
  rw [List.take_append_of_le_length (by rw [flat_length lgV_length, List.length_take]; omega), List.take_of_length_le (by rw [flat_length lgV_length, List.length_take]; omega)]
theorem flat_drop {L : List LS} {i : Nat} (hi : i ≤ L.length) : (flat lgV L).drop (i * 3) = flat lgV (L.drop i) := by
  conv => lhs; rw [← List.take_append_drop i L, flat_app]
  rw [List.drop_append_of_le_length (by rw [flat_length lgV_length, List.length_take]; omega), List.drop_of_length_le (by rw [flat_length lgV_length, List.length_take]; omega), List.nil_append]

theorem one_cell (y : LS) : ∀ u ∈ lgV y, u.oneCell' = true := fun u hu => by have := one_lgV (L := [y]) u; rw [flat_one] at this; exact this hu

theorem insert_spec {B : Nat} {w : World} {s : Sl} {L : List LS} {R : List Asn} {y : LS} {i : Nat} (h : Sep B w (lgA s L :: R)) (hi : i ≤ L.length) (hL : L.length ≤ 1000) :
    CallsV Try.prog n_slices_Insert_Log #[.slice s.a s.len s.cap, .int .i64 i, .slice (some (newA w)) 1 1] (w.alloc (.cells (lgV y).toArray 45)) fun v w' => ∃ s' : Sl, v = .slice s'.a s'.len s'.cap ∧ Sep B w' (lgA s' (L.take i ++ y :: L.drop i) :: R) ∧ Below B w w' := by
  refine slices_Insert_Log.lift (s0 := s) (v2 := ⟨some (newA w), 1, 1⟩) ?_
  obtain ⟨h1, hb1⟩ := h.box (lgV y) 45
  have hl := (h1.rowLen 1 rfl).1
  have hcap := h1.rowCap 1 rfl
  obtain ⟨ti, hti, htz, htsz, htby⟩ := info_log
  have hs3 : (Try.prog.info? 45).map (·.size) = some 3 := by rw [hti, Option.map_some, htsz]
  have hnews : ∀ w', Sep B w' (boxA (newA w) (lgV y) :: lgA s L :: R) → ∀ (j : Nat) (u : Value), (lgV y)[j]? = some u → w'.cell? ((newA w).add j) = some u := fun w' h' j u hu => h'.cell 0 rfl j hu
  obtain ⟨cap, hcape⟩ : ∃ cap, cap = s.cap := ⟨_, rfl⟩
  have e1 : IntKind.i64.wrap ((s.len : Int) + ((1 : Nat) : Int)) = ((L.length + 1 : Nat) : Int) := by rw [w64 (by omega)]; omega
  have e2 : IntKind.i64.wrap ((i : Int) + ((1 : Nat) : Int)) = ((i + 1 : Nat) : Int) := by rw [w64 (by omega)]; omega
  have hmax := hcap.2
  unfold maxLen at hmax
  unfold slices_Insert_Log.main
  refine ⟨by omega, by omega, by omega, by omega, cond_f' rfl (cond_e (fun he => ?_) fun hne => ?_)⟩
  · have hi' : i = L.length := by omega
    obtain ⟨s', w4, hr, hln, h4, hb4⟩ := h1.append (P := Try.prog) (ty := 24) (size := 3) (c := 1) (m := 1) Try.underlying24 hti htz htsz htby rfl (by omega) 1 rfl (a := newA w) (news := lgV y) rfl (hnews _ h1) (one_cell y) (by unfold maxLen; omega) (by omega) (by omega)
    refine ⟨_, _, _, _, hr, s', rfl, ?_, hb1.trans hb4⟩
    have h5 := h4.drop
    have e : lgA s' (L.take i ++ y :: L.drop i) = rowA 45 3 s' (L.length + 1) (flat lgV L ++ lgV y) := by
      unfold lgA
      rw [hi', List.take_length, List.drop_length, flat_app, flat_one, List.length_append]; rfl
    rw [e]
    exact h5
  · have hi' : i < L.length := by
      omega
    have hlen0 : (flat lgV L).length = L.length * 3 := flat_length lgV_length L
    obtain ⟨q, hq, hcq⟩ := h1.rowCell 1 rfl (j := 0) (by rw [hlen0]; omega)
    simp only [e1, e2, Int.toNat_natCast, Int.toNat_zero, Nat.sub_zero, hq, Option.map_some]
    have hC0 : ¬ s.cap = 0 := by omega
    have hCi : ¬ s.cap = i := by omega
    simp only [hC0, hCi, if_false, Option.map_some, add_add, Nat.zero_mul, Nat.zero_add, add_zero]
    have htl : (flat lgV (L.drop i)).length = (L.length - i) * 3 := by rw [flat_length lgV_length, List.length_drop]
    have hread : ∀ (w' : World) (l : List Asn) (k : Nat) (n' : Nat) (vs : List Value) (s1 : Sl), l[k]? = some (rowA 45 3 s1 n' (flat lgV L ++ vs)) → s1.a = some q → Sep B w' l → ∀ (j : Nat) (u : Value), (flat lgV (L.drop i))[j]? = some u → w'.cell? ((q.add (i * 3)).add j) = some u := by
      intro w' l k n' vs s1 hk hq1 h' j u hu
      obtain ⟨q', hq', hc⟩ := h'.rowCell k hk (j := 0) (by rw [List.length_append]; omega)
      rw [hq1] at hq'
      obtain rfl := Option.some.inj hq'
      rw [← flat_drop hi, List.getElem?_drop] at hu
      rw [add_add]
      exact hc _ u (by rw [List.getElem?_append_left (List.getElem?_eq_some_iff.1 hu).1]; exact hu)
    have hfin : ∀ (s' : Sl), lgA s' (L.take i ++ y :: L.drop i) = rowA 45 3 s' (L.length + 1) (flat lgV (L.take i) ++ lgV y ++ flat lgV (L.drop i)) := by
      intro s'
      unfold lgA
      rw [flat_app, flat_cons, List.append_assoc]
      congr 1
      rw [List.length_append, List.length_cons, List.length_take, List.length_drop]; omega
    have htk : (flat lgV (L.take i)).length = i * 3 := by rw [flat_length lgV_length, List.length_take]; omega
    refine cond_d (fun hgt => ?_) fun hle => ?_
    · have e3 : IntKind.i64.wrap (((L.length + 1 : Nat) : Int) - (i : Int)) = ((L.length + 1 - i : Nat) : Int) := by rw [w64 (by omega)]; omega
      rw [e3]
      obtain ⟨s', zs, w2, hr, hsa, hsl, hsc, hzl, h2, hb2⟩ := h1.rowZeros (P := Try.prog) (t := 24) (tn := 3) (ty := 24) Try.underlying24 Try.underlying3 hti htz htsz htby rfl (by omega) 1 rfl hq (x := i) (m := L.length + 1 - i) hi (by omega) (by omega) (by unfold maxLen; omega) (by omega)
      have hlen2 : i + (L.length + 1 - i) = L.length + 1 := by omega
      rw [hlen2] at hsl hsc h2
      rw [flat_take hi] at h2
      have hc6 : ¬ s'.cap = i := by omega
      have hc61 : ¬ s'.cap = i + 1 := by omega
      refine ⟨by omega, by omega, by omega, by omega, s'.a, s'.len, s'.cap, w2, hr, by omega, by omega, by omega, by omega, ?_⟩
      rw [hsa, hsl]
      simp only [hc6, hc61, if_false, Option.map_some]
      -- the new one
      obtain ⟨w3, hr3, h3, hb3⟩ := h2.rowCopy (P := Try.prog) (t := 24) (t' := 24) (ty := 3) Try.underlying24 hs3 0 rfl hsa (x := i) (m := 1) (dLen := L.length + 1 - i) (dCap := s'.cap - i) (sLen := 1) (sCap := 1) (a := newA w) (news := lgV y) (by show min _ _ = _; omega) (by omega) rfl (fun j u hu => hb2.here (hnews _ h1 j u hu)) (one_cell y)
      refine ⟨_, w3, hr3, fun _ => True, trivial, by omega, by omega, by omega, by omega, by omega, by omega, by omega, by omega, ?_⟩
      have e4 : (flat lgV (L.take i) ++ zs).take (i * 3) ++ lgV y ++ (flat lgV (L.take i) ++ zs).drop (i * 3 + (lgV y).length) = (flat lgV (L.take i) ++ lgV y) ++ zs.drop 3 := by
        rw [List.take_append_of_le_length (by omega), List.take_of_length_le (by omega), lgV_length, List.drop_append, htk]
        rw [List.drop_of_length_le (by omega), List.nil_append, show i * 3 + 3 - i * 3 = 3 by omega]
      rw [e4] at h3
      have h3d := h3.drew
      have hnews3 := hread w3.drew _ 2 L.length [] s (by simp only [List.set_cons_zero, List.getElem?_cons_succ, List.getElem?_cons_zero, List.append_nil]; rfl) hq h3d
      obtain ⟨w4, hr4, h4, hb4⟩ := h3d.rowCopy (P := Try.prog) (t := 24) (t' := 24) (ty := 3) Try.underlying24 hs3 0 rfl hsa (x := i + 1) (m := L.length - i) (dLen := L.length + 1 - (i + 1)) (dCap := s'.cap - (i + 1)) (sLen := s.len - i) (sCap := s.cap - i) (a := q.add (i * 3)) (news := flat lgV (L.drop i)) (by show min _ _ = _; omega) (by omega) htl hnews3 one_lgV
      refine ⟨_, w4, hr4, s', by rw [hsa, hsl], ?_, ((hb1.next hb2 ?_).trans hb3).drew.trans hb4⟩
      · have e5 : ((flat lgV (L.take i) ++ lgV y) ++ zs.drop 3).take ((i + 1) * 3) ++ flat lgV (L.drop i) ++ ((flat lgV (L.take i) ++ lgV y) ++ zs.drop 3).drop ((i + 1) * 3 + (flat lgV (L.drop i)).length) = flat lgV (L.take i) ++ lgV y ++ flat lgV (L.drop i) := by
          have hly := lgV_length y
          have hd0 : ((flat lgV (L.take i) ++ lgV y) ++ zs.drop 3).drop ((i + 1) * 3 + (flat lgV (L.drop i)).length) = [] := List.drop_of_length_le (by simp only [List.length_append, List.length_drop]; omega)
          rw [hd0, List.append_nil, List.take_append_of_le_length (by rw [List.length_append]; omega), List.take_of_length_le (by rw [List.length_append]; omega)]
        rw [e5] at h4
        rw [hfin]
        simp only [List.set_cons_zero] at h4
        exact Sep.drop (Sep.drop (h4.perm ((List.Perm.swap _ _ _).trans (.cons _ (List.Perm.swap _ _ _)))))
      · exact h.le
    · have hCi1 : ¬ s.cap = i + 1 := by omega
      simp only [hCi1, if_false]
      obtain ⟨hsh, hqb⟩ := Sep.rowShape 1 rfl h1 hq
      have hqb0 : q.block < w.heap.size := by
        obtain ⟨_, h'⟩ := Sep.rowShape 0 rfl h hq
        exact h'
      refine ⟨by omega, by omega, by omega, by omega, by omega, by omega, by omega, by omega, false, _, over_spec (b := q.add ((i + 1) * 3)) (by rw [add_block]; exact hqb0) (by rw [add_block]; exact hsh) (by omega), ?_⟩
      refine cond_t rfl ⟨fun _ => True, trivial, by omega, by omega, by omega, by omega, by omega, by omega, by omega, by omega, ?_⟩
      obtain ⟨junk, hjl, h2⟩ := h1.rowRoom 1 rfl (m := 1) (by omega) (by omega)
      simp only [List.set_cons_succ, List.set_cons_zero] at h2
      have h2d := h2.drew
      obtain ⟨w3, hr3, h3, hb3⟩ := h2d.rowCopy (P := Try.prog) (t := 24) (t' := 24) (ty := 3) Try.underlying24 hs3 1 (s := ⟨s.a, L.length + 1, s.cap⟩) (n := L.length + 1) rfl (q := q) hq (x := i + 1) (m := L.length - i) (dLen := L.length + 1 - (i + 1)) (dCap := s.cap - (i + 1)) (sLen := L.length + 1 - i) (sCap := s.cap - i) (a := q.add (i * 3)) (news := flat lgV (L.drop i)) (by show min _ _ = _; omega) (by omega) htl (hread _ _ 1 _ junk ⟨s.a, L.length + 1, s.cap⟩ rfl hq h2d) one_lgV
      refine ⟨_, w3, hr3, by omega, by omega, by omega, by omega, ?_⟩
      simp only [List.set_cons_succ, List.set_cons_zero] at h3
      obtain ⟨w4, hr4, h4, hb4⟩ := h3.rowCopy (P := Try.prog) (t := 24) (t' := 24) (ty := 3) Try.underlying24 hs3 1 (s := ⟨s.a, L.length + 1, s.cap⟩) (n := L.length + 1) rfl (q := q) hq (x := i) (m := 1) (dLen := L.length + 1 - i) (dCap := s.cap - i) (sLen := 1) (sCap := 1) (a := newA w) (news := lgV y) (by show min _ _ = _; omega) (by omega) rfl (fun j u hu => h3.cell 0 rfl j hu) (one_cell y)
      refine ⟨_, w4, hr4, ⟨s.a, L.length + 1, s.cap⟩, by rw [hq], ?_, (hb1.drew.trans hb3).trans hb4⟩
      simp only [List.set_cons_succ, List.set_cons_zero] at h4
      have h5 := h4.drop
      rw [hfin]
      have e6 : ∀ X : List Value, X = (flat lgV L ++ junk).take ((i + 1) * 3) ++ flat lgV (L.drop i) ++ (flat lgV L ++ junk).drop ((i + 1) * 3 + (flat lgV (L.drop i)).length) → X.take (i * 3) ++ lgV y ++ X.drop (i * 3 + (lgV y).length) = flat lgV (L.take i) ++ lgV y ++ flat lgV (L.drop i) := by
        rintro X rfl
        have hly := lgV_length y
        have hfl : flat lgV L = flat lgV (L.take i) ++ flat lgV (L.drop i) := by rw [← flat_app, List.take_append_drop]
        have hd0 : (flat lgV L ++ junk).drop ((i + 1) * 3 + (flat lgV (L.drop i)).length) = [] := List.drop_of_length_le (by rw [List.length_append]; omega)
        rw [hd0, List.append_nil]
        have ht1 : ((flat lgV L ++ junk).take ((i + 1) * 3)).length = (i + 1) * 3 := by rw [List.length_take, List.length_append]; omega
        congr 1
        · congr 1
          rw [List.take_append_of_le_length (by omega), List.take_take, show min (i * 3) ((i + 1) * 3) = i * 3 by omega, List.take_append_of_le_length (by omega), flat_take hi]
        · rw [List.drop_append, ht1, List.drop_of_length_le (by omega), List.nil_append, show i * 3 + (lgV y).length - (i + 1) * 3 = 0 by omega, List.drop_zero]
      rw [e6 _ rfl] at h5
      exact h5

end Go.Proofs.Ytcegohgmagppbaa

/-
  Logs: what is said and put, in plain Lean.
-/
set_option linter.unusedVariables false
set_option linter.unusedSimpArgs false
namespace Go.Proofs.Ytcegohgmagppbaa
open Go.Lf Go.RowKit

def lkp (c : Int) : List Log → Log
  | [] => ⟨c, 0, []⟩
  | g :: r => if g.c < c then lkp c r else if g.c = c then g else ⟨c, 0, []⟩
def pos (c : Int) : List Log → Nat
  | [] => 0
  | g :: r => if g.c < c then pos c r + 1 else 0
def insR (c : Int) : List Log → List Log
  | [] => [⟨c, 0, []⟩]
  | g :: r => if g.c < c then g :: insR c r else if g.c = c then g :: r else ⟨c, 0, []⟩ :: g :: r
def addR (c b : Int) : List Log → List Log
  | [] => [⟨c, 0, [b]⟩]
  | g :: r => if g.c < c then g :: addR c b r else if g.c = c then ⟨g.c, g.f, g.b ++ [b]⟩ :: r else ⟨c, 0, [b]⟩ :: g :: r

def tot (g : Log) : Int := g.f + g.b.length

theorem lkp_c (c : Int) : ∀ gs : List Log, (lkp c gs).c = c
  | [] => rfl
  | g :: r => by
    unfold lkp
    split
    · exact lkp_c c r
    · split
      · assumption
      · rfl

/-- where a walk stops -/
theorem at_split (c : Int) : ∀ (a r : List Log), (∀ g ∈ a, g.c < c) → (r = [] ∨ ∃ g r', r = g :: r' ∧ ¬ g.c < c) →
    pos c (a ++ r) = a.length ∧ lkp c (a ++ r) = lkp c r ∧ insR c (a ++ r) = a ++ insR c r ∧ (∀ b, addR c b (a ++ r) = a ++ addR c b r) ∧
    ∃ x r', insR c r = x :: r' ∧ x = lkp c r ∧ ∀ b, addR c b r = ⟨x.c, x.f, x.b ++ [b]⟩ :: r'
  | [], r, _, h => by
    refine ⟨?_, rfl, rfl, fun b => rfl, ?_⟩
    · rcases h with rfl | ⟨g, r', rfl, h⟩
      · rfl
      · show (if g.c < c then _ else _) = 0
        rw [if_neg h]
    · rcases h with rfl | ⟨g, r', rfl, h⟩
      · exact ⟨_, _, rfl, rfl, fun b => rfl⟩
      · unfold insR lkp addR
        simp only [if_neg h]
        by_cases he : g.c = c
        · simp only [if_pos he]; exact ⟨_, _, rfl, rfl, fun b => rfl⟩
        · simp only [if_neg he]; exact ⟨_, _, rfl, rfl, fun b => rfl⟩
  | g :: a, r, ha, h => by
    obtain ⟨h1, h2, h3, h4, h5⟩ := at_split c a r (fun x hx => ha x (List.mem_cons_of_mem _ hx)) h
    have hg : g.c < c := ha g (by simp)
    refine ⟨?_, ?_, ?_, fun b => ?_, h5⟩
    · show (if g.c < c then pos c (a ++ r) + 1 else 0) = _; rw [if_pos hg, h1]; rfl
    · show (if g.c < c then lkp c (a ++ r) else _) = _; rw [if_pos hg, h2]
    · show (if g.c < c then g :: insR c (a ++ r) else _) = _; rw [if_pos hg, h3]; rfl
    · show (if g.c < c then g :: addR c b (a ++ r) else _) = _; rw [if_pos hg, h4]; rfl

theorem ok_lt : ∀ {gs : List Log} {l : Int}, logsOk l gs = true → ∀ g ∈ gs, l < g.c := fun h g hg => (logsOk_mem h g hg).1

theorem addR_ok {c b : Int} (hc : okClient c = true) (hb : okBody b = true) : ∀ {gs : List Log} {l : Int}, logsOk l gs = true → l < c → (lkp c gs).b.length < 32 → logsOk l (addR c b gs) = true
  | [], l, _, hl, _ => by
    unfold addR logsOk
    simp [okLog, hl, hc, hb, logsOk]
  | g :: r, l, h, hl, h32 => by
    unfold logsOk at h
    rw [Bool.and_eq_true] at h
    unfold addR
    unfold lkp at h32
    split
    · rename_i hlt
      rw [if_pos hlt] at h32
      show (okLog l g && _) = true
      rw [h.1, Bool.true_and]
      exact addR_ok hc hb h.2 hlt h32
    · rename_i hlt
      rw [if_neg hlt] at h32
      split
      · rename_i he
        rw [if_pos he] at h32
        show (okLog l ⟨g.c, g.f, g.b ++ [b]⟩ && logsOk g.c r) = true
        rw [h.2, Bool.and_true]
        have h1 := h.1
        simp only [okLog, Bool.and_eq_true, decide_eq_true_eq, List.all_eq_true] at h1 ⊢
        refine ⟨⟨⟨h1.1.1.1, h1.1.1.2⟩, by rw [List.length_append]; simp; omega⟩, fun x hx => ?_⟩
        rcases List.mem_append.1 hx with hx | hx
        · exact h1.2 x hx
        · simp at hx; subst hx; exact hb
      · rename_i he
        show (okLog l ⟨c, 0, [b]⟩ && (okLog c g && logsOk g.c r)) = true
        rw [h.2]
        have h1 := h.1
        simp only [okLog, Bool.and_eq_true, decide_eq_true_eq, List.all_eq_true] at h1 ⊢
        refine ⟨⟨⟨⟨⟨⟨hl, hc⟩, by omega⟩, by omega⟩, by simp⟩, by simpa using hb⟩, ⟨⟨⟨⟨⟨by omega, h1.1.1.1.1.2⟩, h1.1.1.1.2⟩, h1.1.1.2⟩, h1.1.2⟩, h1.2⟩, trivial⟩

theorem lkp_ge {c : Int} : ∀ {gs : List Log} {l : Int}, logsOk l gs = true → c ≤ l → lkp c gs = ⟨c, 0, []⟩
  | [], _, _, _ => rfl
  | g :: r, l, h, hl => by
    have := ok_lt h g (by simp)
    unfold lkp
    rw [if_neg (by omega), if_neg (by omega)]

/-- of each client -/
theorem lkp_add {c b : Int} (d : Int) : ∀ {gs : List Log} {l : Int}, logsOk l gs = true → l < c → lkp d (addR c b gs) = if d = c then ⟨c, (lkp c gs).f, (lkp c gs).b ++ [b]⟩ else lkp d gs
  | [], l, _, _ => by
    show (if c < d then lkp d [] else if c = d then ⟨c, 0, [b]⟩ else ⟨d, 0, []⟩) = _
    by_cases h : d = c
    · subst h; simp [lkp]
    · rw [if_neg h]
      split
      · rfl
      · rw [if_neg (by omega)]; rfl
  | g :: r, l, h, hl => by
    unfold logsOk at h
    rw [Bool.and_eq_true] at h
    unfold addR
    split
    · rename_i hlt
      have ih := lkp_add d (b := b) h.2 hlt
      by_cases hd : d = c
      · subst hd
        rw [if_pos rfl] at ih ⊢
        unfold lkp
        rw [if_pos hlt, ih]
        simp only [if_pos hlt]
      · rw [if_neg hd] at ih ⊢
        unfold lkp
        rw [ih]
    · rename_i hlt
      split
      · rename_i he
        by_cases hd : d = c
        · subst hd
          rw [if_pos rfl]
          unfold lkp
          simp only [if_neg hlt, if_pos he]
          rw [← he]
        · rw [if_neg hd]
          unfold lkp
          by_cases h1 : g.c < d
          · simp only [if_pos h1]
          · simp only [if_neg h1]
            rw [if_neg (by omega), if_neg (by omega)]
      · rename_i he
        by_cases hd : d = c
        · subst hd
          rw [if_pos rfl]
          unfold lkp
          simp only [if_neg hlt, if_neg he, if_neg (Int.lt_irrefl d), if_true]
          rfl
        · rw [if_neg hd]
          show (if c < d then lkp d (g :: r) else if c = d then _ else _) = _
          by_cases h1 : c < d
          · rw [if_pos h1]
          · rw [if_neg h1, if_neg (by omega)]
            unfold lkp
            rw [if_neg (by omega), if_neg (by omega)]

def haves (gs : List Log) : List Int := (List.range 8).map fun c : Nat => tot (lkp (c : Int) gs)
def haveL (gs : List Log) : List Int := if logsOk (-1) gs = true then haves gs else List.replicate 8 0

def sayR (c b : Int) (gs : List Log) : List Log × Int × Int :=
  if logsOk (-1) gs = true ∧ okClient c = true ∧ okBody b = true then
    if 32 ≤ (lkp c gs).b.length then ([], 0, 20) else (addR c b gs, tot (lkp c gs) + 1, 0)
  else ([], 0, 1)
def putR (c n b : Int) (gs : List Log) : List Log × Bool × Int :=
  if logsOk (-1) gs = true ∧ okClient c = true ∧ okBody b = true ∧ 1 ≤ n then
    if n ≤ tot (lkp c gs) then (gs, false, 0) else if tot (lkp c gs) + 1 < n then ([], false, 14) else if 32 ≤ (lkp c gs).b.length then ([], false, 20) else (addR c b gs, true, 0)
  else ([], false, 1)
def okFrom (h : Int) : Bool := decide (0 ≤ h) && decide (h ≤ 1073741824)
def fromG : Nat → List Int → List Log
  | _, [] => []
  | k, h :: r => ⟨(k : Int), h, []⟩ :: fromG (k + 1) r
def fromR (hs : List Int) : List Log × Int := if hs.length = 8 ∧ hs.all okFrom = true then (fromG 0 hs, 0) else ([], 1)

theorem ok_length : ∀ {gs : List Log} {l : Int}, logsOk l gs = true → -1 ≤ l → l < 8 → gs.length + l ≤ 7
  | [], l, _, h0, h1 => by simp; omega
  | g :: r, l, h, h0, h1 => by
    have := logsOk_mem h g (by simp)
    unfold logsOk at h
    rw [Bool.and_eq_true] at h
    have := ok_length h.2 (by omega) (by omega)
    simp only [List.length_cons]; omega

theorem ok_fit {gs : List Log} (h : logsOk (-1) gs = true) : Fit gs := by
  refine ⟨?_, fun g hg => ?_⟩
  · have := ok_length h (by omega) (by omega); omega
  · have := logsOk_mem h g hg; omega

theorem lkp_mem {c : Int} : ∀ {gs : List Log}, lkp c gs ∈ gs ∨ lkp c gs = ⟨c, 0, []⟩
  | [] => .inr rfl
  | g :: r => by
    unfold lkp
    split
    · rcases lkp_mem (c := c) (gs := r) with h | h
      · exact .inl (List.mem_cons_of_mem _ h)
      · exact .inr h
    · split
      · exact .inl (by simp)
      · exact .inr rfl

theorem lkp_rng {gs : List Log} (h : logsOk (-1) gs = true) (c : Int) : 0 ≤ (lkp c gs).f ∧ (lkp c gs).f ≤ 1073741824 ∧ (lkp c gs).b.length ≤ 32 ∧ ∀ b ∈ (lkp c gs).b, 0 ≤ b ∧ b ≤ 1048576 := by
  rcases lkp_mem (c := c) (gs := gs) with h1 | h1
  · have := logsOk_mem h _ h1
    exact ⟨by omega, by omega, by omega, this.2.2.2.2.2.2⟩
  · rw [h1]; simp

theorem lkp_of_mem {c : Int} : ∀ {gs : List Log} {l : Int}, logsOk l gs = true → ∀ g ∈ gs, g.c = c → lkp c gs = g
  | [], _, _, _, hg, _ => by simp at hg
  | x :: r, l, h, g, hg, hc => by
    unfold logsOk at h
    rw [Bool.and_eq_true] at h
    unfold lkp
    rcases List.mem_cons.1 hg with rfl | hg
    · rw [if_neg (by omega), if_pos hc]
    · have := ok_lt h.2 g hg
      rw [if_pos (by omega)]
      exact lkp_of_mem h.2 g hg hc

end Go.Proofs.Ytcegohgmagppbaa

/-
  Logs: of, Say, Put of the program: contracts.
-/
set_option linter.unusedVariables false
set_option linter.unusedSimpArgs false
namespace Go.Proofs.Ytcegohgmagppbaa
open Go.Lf Go.RowKit

theorem pos_get (c : Int) : ∀ gs : List Log, (insR c gs)[pos c gs]? = some (lkp c gs)
  | [] => rfl
  | g :: r => by
    unfold insR pos lkp
    split
    · rw [List.getElem?_cons_succ]; exact pos_get c r
    · split <;> rfl

theorem pos_set (c b : Int) : ∀ gs : List Log, (insR c gs).set (pos c gs) ⟨(lkp c gs).c, (lkp c gs).f, (lkp c gs).b ++ [b]⟩ = addR c b gs
  | [] => rfl
  | g :: r => by
    unfold insR pos lkp addR
    split
    · rw [List.set_cons_succ, pos_set c b r]
    · split <;> rfl

theorem insR_le (c : Int) : ∀ gs : List Log, (insR c gs).length ≤ gs.length + 1
  | [] => by simp [insR]
  | g :: r => by
    unfold insR
    have := insR_le c r
    split
    · simp only [List.length_cons]; omega
    · split <;> simp

theorem of_spec {w : World} {s : Sl} {gs : List Log} (h : Logs w s gs) (hf : Fit gs) (c : Int) :
    CallsV Try.prog n_logs_of #[.slice s.a s.len s.cap, .int .i64 c] w fun v w' => ∃ s' : Sl, v = .tuple #[.slice s'.a s'.len s'.cap, .int .i64 (pos c gs : Nat)] ∧ New w.heap.size w' s' (insR c gs) ∧ Below w.heap.size w w' := by
  refine logs_of.lift ?_
  unfold logs_of.main
  refine (twin_spec h hf).mono ?_
  rintro _ w1 ⟨s1, rfl, ⟨L, hL, h1⟩, hb⟩
  refine ⟨_, _, _, rfl, ?_⟩
  have hLl : L.length = gs.length := by rw [← hL, List.length_map]
  have hgl := hf.1
  have hl1 := h1.rowLen 0 rfl
  show logs_of.l4 _ c s1 0 w1
  unfold logs_of.l4
  refine ⟨fun t w' => w' = w1 ∧ ∃ k : Nat, t = k ∧ k ≤ gs.length ∧ ∀ g ∈ gs.take k, g.c < c, fun t _ => gs.length - t.toNat, ⟨rfl, 0, rfl, Nat.zero_le _, by simp⟩, ?_⟩
  rintro _ w2 ⟨hw, k, rfl, hk, ha⟩
  subst hw
  have hsplit : (gs.drop k = [] ∨ ∃ g r', gs.drop k = g :: r' ∧ ¬ g.c < c) → pos c gs = k ∧ insR c gs = gs.take k ++ insR c (gs.drop k) := by
    intro hx
    have := at_split c (gs.take k) (gs.drop k) ha hx
    rw [List.take_append_drop] at this
    refine ⟨?_, this.2.2.1⟩
    rw [this.1, List.length_take]; omega
  have hnew : (gs.drop k = [] ∨ ∃ g r', gs.drop k = g :: r' ∧ c < g.c) → logs_of.c2 (fun v w' => ∃ s' : Sl, v = .tuple #[.slice s'.a s'.len s'.cap, .int .i64 (pos c gs : Nat)] ∧ New w.heap.size w' s' (insR c gs) ∧ Below w.heap.size w w') c s1 (k : Int) w2 := by
    intro hx
    obtain ⟨hp, hi⟩ := hsplit (hx.imp id fun ⟨g, r', e, hlt⟩ => ⟨g, r', e, by omega⟩)
    have hi' : insR c (gs.drop k) = ⟨c, 0, []⟩ :: gs.drop k := by
      rcases hx with hx | ⟨g, r', e, hlt⟩
      · rw [hx]; rfl
      · rw [e]; unfold insR; rw [if_neg (by omega), if_neg (by omega)]
    unfold logs_of.c2
    refine (insert_spec (s := s1) (y := (⟨c, 0, []⟩, ⟨none, 0, 0⟩)) (i := k) h1 (by omega) (by omega)).mono ?_
    rintro _ w3 ⟨s', rfl, h3, hb3⟩
    refine ⟨_, _, _, rfl, ?_⟩
    unfold logs_of.c1
    refine ⟨s', by rw [hp], ⟨L.take k ++ (⟨c, 0, []⟩, ⟨none, 0, 0⟩) :: L.drop k, ?_, ?_⟩, hb.trans hb3⟩
    · rw [List.map_append, List.map_cons, List.map_take, List.map_drop, hL, hi, hi']
    · have h4 := (h3.rowNil 3 1).swap
      refine h4.perm (.cons _ ?_)
      rw [List.map_append, List.map_cons]
      have : L.map bodA = (L.take k).map bodA ++ (L.drop k).map bodA := by rw [← List.map_append, List.take_append_drop]
      rw [this]
      exact List.perm_middle.symm
  have hold : ∀ g r', gs.drop k = g :: r' → g.c = c → logs_of.c1 (fun v w' => ∃ s' : Sl, v = .tuple #[.slice s'.a s'.len s'.cap, .int .i64 (pos c gs : Nat)] ∧ New w.heap.size w' s' (insR c gs) ∧ Below w.heap.size w w') s1 (k : Int) w2 := by
    intro g r' e he
    obtain ⟨hp, hi⟩ := hsplit (.inr ⟨g, r', e, by omega⟩)
    unfold logs_of.c1
    refine ⟨s1, by rw [hp], ⟨L, ?_, h1⟩, hb⟩
    rw [hL, hi, e]
    unfold insR
    rw [if_neg (by omega), if_pos he, ← e, List.take_append_drop]
  have hget : k < gs.length → ∃ g q, gs[k]? = some g ∧ gs.drop k = g :: gs.drop (k + 1) ∧ s1.a = some q ∧ w2.cell? (q.add (k * 3)) = some (.int .i64 g.c) := by
    intro hlt
    obtain ⟨x, hx⟩ : ∃ x, L[k]? = some x := ⟨_, List.getElem?_eq_getElem (by omega)⟩
    obtain ⟨q, hq, hc⟩ := Sep.rowGet 0 (by omega) lgV_length rfl h1 hx
    have := hc 0 _ rfl
    rw [add_zero] at this
    have hg : gs[k]? = some x.1 := by rw [← hL, List.getElem?_map, hx]; rfl
    exact ⟨x.1, q, hg, drop_eq hg, hq, this⟩
  have hc3 : (gs.drop k = [] ∨ ∃ g r', gs.drop k = g :: r' ∧ ¬ g.c < c) → logs_of.c3 (fun v w' => ∃ s' : Sl, v = .tuple #[.slice s'.a s'.len s'.cap, .int .i64 (pos c gs : Nat)] ∧ New w.heap.size w' s' (insR c gs) ∧ Below w.heap.size w w') c s1 (k : Int) w2 := by
    intro hx
    unfold logs_of.c3
    refine cond_e (fun he => hnew (.inl (List.drop_of_length_le (by omega)))) fun hne => ?_
    have hlt : k < gs.length := by omega
    obtain ⟨g, q, hg, hd, hq, hcell⟩ := hget hlt
    have hge : ¬ g.c < c := by
      rcases hx with hx | ⟨g', r', e, hlt'⟩
      · rw [hx] at hd; cases hd
      · rw [hd] at e; cases e; exact hlt'
    refine ⟨by omega, by omega, q, hq, g.c, by rw [Int.toNat_natCast]; exact hcell, cond_n (fun hne2 => hnew (.inr ⟨g, _, hd, by omega⟩)) fun he => hold g _ hd he⟩
  unfold logs_of.b4
  refine cond_d (fun hlt => ?_) fun hge => hc3 (.inl (List.drop_of_length_le (by omega)))
  have hlt' : k < gs.length := by omega
  obtain ⟨g, q, hg, hd, hq, hcell⟩ := hget hlt'
  refine ⟨by omega, hlt, q, hq, g.c, by rw [Int.toNat_natCast]; exact hcell, cond_d (fun hc => ?_) fun hc => hc3 (.inr ⟨g, _, hd, hc⟩)⟩
  unfold logs_of.c5
  rw [inc (by omega)]
  refine ⟨⟨rfl, rfl, rfl, k + 1, rfl, by omega, ?_⟩, by (try dsimp only); omega⟩
  intro x hx
  rw [List.take_add_one, hg] at hx
  rcases List.mem_append.1 hx with hx | hx
  · exact ha x hx
  · simp at hx; subst hx; exact hc

theorem Sep.rowAll {B : Nat} {w : World} {l : List Asn} (k : Nat) {e : TypeId} {size : Nat} {s : Sl} {n : Nat} {vs : List Value} (hk : l[k]? = some (rowA e size s n vs)) (h : Sep B w l) : ∀ q, s.a = some q → ∀ (j : Nat) (u : Value), vs[j]? = some u → w.cell? (q.add j) = some u := by
  intro q hq j u hu
  have hlt := (List.getElem?_eq_some_iff.1 hu).1
  obtain ⟨q', hq', hc⟩ := h.rowCell k hk hlt
  rw [hq] at hq'
  obtain rfl := Option.some.inj hq'
  exact hc j u hu

theorem lgA_none {B : Nat} {w : World} {l : List Asn} (k : Nat) {s : Sl} {L : List LS} (hk : l[k]? = some (lgA s L)) (h : Sep B w l) (hn : s.a = none) : L = [] := by
  cases L with
  | nil => rfl
  | cons x r =>
    obtain ⟨q, hq, _⟩ := Sep.rowGet (f := lgV) k (by omega) lgV_length hk h (i := 0) rfl
    rw [hn] at hq; cases hq

/-- a body behind a log's -/
theorem grow_spec {B : Nat} {w : World} {s : Sl} {L : List LS} {k : Nat} {y : LS} (h : Sep B w (lgA s L :: L.map bodA)) (hk : L[k]? = some y) (hy : y.1.b.length ≤ 1000) (b : Int) :
    ∃ q, s.a = some q ∧ w.cell? ((q.add (k * 3)).add 2) = some (.slice y.2.a y.2.len y.2.cap) ∧ y.2.len = y.1.b.length ∧ w.cell? (q.add (k * 3)) = some (.int .i64 y.1.c) ∧ w.cell? ((q.add (k * 3)).add 1) = some (.int .i64 y.1.f) ∧
      (w.alloc (.cells #[.int .i64 b] 3)).cell? ((q.add (k * 3)).add 2) = some (.slice y.2.a y.2.len y.2.cap) ∧
      ∃ t : Sl, ∃ w3, (builtin .append #[23, 23] 23 #[] #[.slice y.2.a y.2.len y.2.cap, .slice (some (newA w)) 1 1]).run Try.prog (w.alloc (.cells #[.int .i64 b] 3)) = .ok (.value (.slice t.a t.len t.cap)) w3 ∧ t.len = y.1.b.length + 1 ∧
      Wr w3 ((q.add (k * 3)).add 2) ∧ Sep B (w3.setCell ((q.add (k * 3)).add 2) (.slice t.a t.len t.cap)) (lgA s (L.set k (⟨y.1.c, y.1.f, y.1.b ++ [b]⟩, t)) :: (L.set k (⟨y.1.c, y.1.f, y.1.b ++ [b]⟩, t)).map bodA) ∧
      Below B w (w3.setCell ((q.add (k * 3)).add 2) (.slice t.a t.len t.cap)) := by
  obtain ⟨q, hq, hc⟩ := Sep.rowGet 0 (by omega) lgV_length rfl h hk
  have hkl := (List.getElem?_eq_some_iff.1 hk).1
  have hmk : (L.map bodA)[k]? = some (bodA y) := by rw [List.getElem?_map, hk]; rfl
  have hkb : (lgA s L :: L.map bodA)[k + 1]? = some (bodA y) := hmk
  have hln := (h.rowLen (k + 1) hkb).1
  have c0 := hc 0 _ rfl
  rw [add_zero] at c0
  have hba := below_alloc w (.cells #[.int .i64 b] 3)
  have h2 := h.keep hba
  obtain ⟨i, hi, hz, hsz, hby⟩ := info_int
  obtain ⟨t, w3, hr, htl, h3, hb3⟩ := h2.append (P := Try.prog) (ty := 23) (size := 1) (c := 1) (m := 1) Try.underlying23 hi hz hsz hby rfl (by omega) (k + 1) hkb (a := newA w) (news := [.int .i64 b]) rfl (fun j u hu => by
    refine (cell_new _ _ _ _).trans ?_
    simpa using hu) (fun u hu => by simp at hu; subst hu; rfl) (by unfold maxLen; omega) (by omega) (by omega)
  have hflen : (flat lgV L).length = L.length * 3 := flat_length lgV_length L
  have hj : k * 3 + 2 < (flat lgV L).length := by omega
  simp only [List.set_cons_succ] at h3
  have hwr := h3.rowWr 0 rfl hq hj
  obtain ⟨h4, hb4⟩ := h3.rowSet 0 rfl hq hj (.slice t.a t.len t.cap)
  refine ⟨q, hq, hc 2 _ rfl, hln, c0, hc 1 _ rfl, hba.here (hc 2 _ rfl), t, w3, hr, htl, by rw [add_add]; exact hwr, ?_, ?_⟩
  · rw [add_add]
    simp only [List.set_cons_zero] at h4
    rw [flat_bod (b := y.1.b ++ [b]) (show L[k]? = some (y.1, y.2) from hk)] at h4
    have e : lgA s (L.set k (⟨y.1.c, y.1.f, y.1.b ++ [b]⟩, t)) = rowA 45 3 s L.length (flat lgV (L.set k (⟨y.1.c, y.1.f, y.1.b ++ [b]⟩, t))) := by unfold lgA; rw [List.length_set]
    rw [e, List.map_set]
    have e2 : bodA (⟨y.1.c, y.1.f, y.1.b ++ [b]⟩, t) = rowA 3 1 t (y.1.b.length + 1) (y.1.b.map (Value.int .i64) ++ [.int .i64 b]) := by
      unfold bodA
      simp only [List.length_append, List.map_append, List.length_cons, List.length_nil, List.map_cons, List.map_nil]
    rw [e2]
    exact h4
  · rw [add_add]; exact ((hba.mono h.le).trans hb3).trans hb4

/-- logs and their copy -/
theorem cloneN_spec {B : Nat} {w : World} {s : Sl} {L : List LS} (h : Sep B w (lgA s L :: L.map bodA)) (hL : L.length ≤ 1001) :
    CallsV Try.prog n_slices_Clone_Log #[.slice s.a s.len s.cap] w fun v w' => ∃ s' : Sl, v = .slice s'.a s'.len s'.cap ∧ New B w' s' (L.map (·.1)) ∧ Below w.heap.size w w' := by
  refine (cloneL_spec (h.rowLen 0 rfl).1 (Sep.rowAll 0 rfl h) (lgA_none 0 rfl h) hL).mono ?_
  rintro _ w' ⟨s', rfl, hS, hb⟩
  exact ⟨s', rfl, ⟨L, rfl, (hS _ _ h).swap.drop⟩, hb⟩

end Go.Proofs.Ytcegohgmagppbaa

/-
  Logs: Say, Put of the program: contracts.
-/
set_option linter.unusedVariables false
set_option linter.unusedSimpArgs false
namespace Go.Proofs.Ytcegohgmagppbaa
open Go.Lf Go.RowKit

theorem ok01 {gs : List Log} : ((if logsOk (-1) gs = true then (0 : Int) else 1) ≠ 0) ↔ ¬ logsOk (-1) gs = true := by
  split <;> simp_all

theorem say_spec {w : World} {s : Sl} {gs : List Log} (h : Logs w s gs) (c b : Int) :
    CallsV Try.prog n_logs_Say #[.slice s.a s.len s.cap, .int .i64 c, .int .i64 b] w fun v w' => ∃ s' : Sl, v = .tuple #[.slice s'.a s'.len s'.cap, .int .i64 (sayR c b gs).2.1, .int .i64 (sayR c b gs).2.2] ∧ New w.heap.size w' s' (sayR c b gs).1 ∧ Below w.heap.size w w' := by
  refine logs_Say.lift ?_
  unfold logs_Say.main
  have bad : ∀ w', Below w.heap.size w w' → ¬ (logsOk (-1) gs = true ∧ okClient c = true ∧ okBody b = true) → ∃ s' : Sl, Value.tuple #[.slice none 0 0, .int .i64 0, .int .i64 1] = .tuple #[.slice s'.a s'.len s'.cap, .int .i64 (sayR c b gs).2.1, .int .i64 (sayR c b gs).2.2] ∧ New w.heap.size w' s' (sayR c b gs).1 ∧ Below w.heap.size w w' := by
    intro w' hb hn
    unfold sayR
    rw [if_neg hn]
    exact ⟨⟨none, 0, 0⟩, rfl, New.nil hb.size, hb⟩
  refine (check_spec h).mono ?_
  rintro _ w1 ⟨rfl, hb1⟩
  refine ⟨_, rfl, cond_n (fun hne => bad _ hb1 fun hh => ok01.1 hne hh.1) fun he => ?_⟩
  have hok : logsOk (-1) gs = true := Classical.byContradiction fun hn => ok01.2 hn he
  refine (client_spec c w1).mono ?_
  rintro _ _ ⟨rfl, rfl⟩
  refine ⟨_, rfl, cond_not (fun hc => bad _ hb1 fun hh => by rw [hh.2.1] at hc; cases hc) fun hc => ?_⟩
  refine (body_spec b w1).mono ?_
  rintro _ _ ⟨rfl, rfl⟩
  refine ⟨_, rfl, cond_not (fun hc' => bad _ hb1 fun hh => by rw [hh.2.2] at hc'; cases hc') fun hbd => ?_⟩
  have h1 := Els.keep LogC.stab h hb1
  have hfit := ok_fit hok
  have hrng := lkp_rng hok c
  unfold logs_Say.c1
  refine (of_spec h1 hfit c).mono ?_
  rintro _ w2 ⟨s2, rfl, ⟨L, hL, h2⟩, hb2⟩
  have hp := pos_get c gs
  rw [← hL, List.getElem?_map, Option.map_eq_some_iff] at hp
  obtain ⟨y, hy, hyl⟩ := hp
  have hplt := (List.getElem?_eq_some_iff.1 hy).1
  have hl2 : s2.len = L.length := (h2.rowLen 0 rfl).1
  have hLs : L.length ≤ 1001 := by have := insR_le c gs; have := hfit.1; rw [← hL, List.length_map] at *; omega
  obtain ⟨q, hq, c2, hyn, c0, c1, c2', t, w3, hr, htl, hwr, h4, hb4⟩ := grow_spec h2 hy (by rw [hyl]; omega) b
  have hb12 : Below w.heap.size w w2 := hb1.next hb2 (Nat.le_refl _)
  refine ⟨_, _, _, _, rfl, by omega, by omega, q, hq, _, _, _, by rw [Int.toNat_natCast]; exact c2, ?_⟩
  refine cond_d (fun h32 => ?_) fun h32 => ?_
  · have : sayR c b gs = ([], 0, 20) := by
      unfold sayR
      rw [if_pos ⟨hok, hc, hbd⟩, if_pos (by rw [← hyl]; omega)]
    rw [this]
    exact ⟨⟨none, 0, 0⟩, rfl, New.nil hb12.size, hb12⟩
  · have hR : sayR c b gs = (addR c b gs, tot (lkp c gs) + 1, 0) := by
      unfold sayR
      rw [if_pos ⟨hok, hc, hbd⟩, if_neg (by rw [← hyl]; omega)]
    rw [hR]
    simp only [Int.toNat_natCast]
    refine ⟨by omega, by omega, q, hq, _, _, _, c2, ?_⟩
    refine ⟨_, _, _, w3, hr, by omega, by omega, q, hq, hwr, ?_⟩
    generalize hw4 : w3.setCell ((q.add (pos c gs * 3)).add 2) (.slice t.a t.len t.cap) = w4 at h4 hb4
    have h4d := h4.drew
    have hy' : (L.set (pos c gs) (⟨y.1.c, y.1.f, y.1.b ++ [b]⟩, t))[pos c gs]? = some (⟨y.1.c, y.1.f, y.1.b ++ [b]⟩, t) := by rw [List.getElem?_set_self hplt]
    obtain ⟨q', hq', hcq⟩ := Sep.rowGet 0 (by omega) lgV_length rfl h4d hy'
    rw [hq] at hq'
    obtain rfl := Option.some.inj hq'
    have d0 := hcq 0 _ rfl
    rw [add_zero] at d0
    have d1 := hcq 1 _ rfl
    have d2 := hcq 2 _ rfl
    refine ⟨fun x => x.cell? (q.add (pos c gs * 3)) = some (.int .i64 y.1.c) ∧ x.cell? ((q.add (pos c gs * 3)).add 1) = some (.int .i64 y.1.f) ∧ x.cell? ((q.add (pos c gs * 3)).add 2) = some (.slice t.a t.len t.cap), ⟨d0, d1, d2⟩, by omega, by omega, q, hq, _, fun x hx => hx.1, _, fun x hx => hx.2.1, _, _, _, fun x hx => hx.2.2, ?_⟩
    refine (cloneN_spec h4d (by rw [List.length_set]; exact hLs)).mono ?_
    rintro _ w5 ⟨s5, rfl, hN, hb5⟩
    refine ⟨_, _, _, rfl, ⟨hb5.here d0, hb5.here d1, hb5.here d2⟩, ?_⟩
    refine (has_spec y.1.c y.1.f t w5 (by rw [hyl]; omega) (by omega)).mono ?_
    rintro _ w6 ⟨rfl, hb6⟩
    have e : y.1.f + (t.len : Int) = tot (lkp c gs) + 1 := by rw [← hyl, htl]; unfold tot; push_cast; omega
    refine ⟨_, rfl, s5, by rw [e], ?_, ((hb12.trans (hb4.mono hb1.size)).drew.next hb5 (Nat.le_refl _)).next hb6 (Nat.le_refl _)⟩
    have := (hN.keep hb6).lower (hb1.size)
    rwa [List.map_set, hL, hyl, pos_set] at this

theorem put_spec {w : World} {s : Sl} {gs : List Log} (h : Logs w s gs) (c n b : Int) (hn63 : -9223372036854775808 ≤ n ∧ n ≤ 9223372036854775807) :
    CallsV Try.prog n_logs_Put #[.slice s.a s.len s.cap, .agg #[.int .i64 c, .int .i64 n, .int .i64 b]] w fun v w' => ∃ s' : Sl, v = .tuple #[.slice s'.a s'.len s'.cap, .bool (putR c n b gs).2.1, .int .i64 (putR c n b gs).2.2] ∧ New w.heap.size w' s' (putR c n b gs).1 ∧ Below w.heap.size w w' := by
  refine logs_Put.lift ?_
  unfold logs_Put.main
  have bad : ∀ w', Below w.heap.size w w' → ¬ (logsOk (-1) gs = true ∧ okClient c = true ∧ okBody b = true ∧ 1 ≤ n) → ∃ s' : Sl, Value.tuple #[.slice none 0 0, .bool false, .int .i64 1] = .tuple #[.slice s'.a s'.len s'.cap, .bool (putR c n b gs).2.1, .int .i64 (putR c n b gs).2.2] ∧ New w.heap.size w' s' (putR c n b gs).1 ∧ Below w.heap.size w w' := by
    intro w' hb hn
    unfold putR
    rw [if_neg hn]
    exact ⟨⟨none, 0, 0⟩, rfl, New.nil hb.size, hb⟩
  intro w0
  have hb0 : Below w.heap.size w w0 := below_alloc _ _
  have a0 : w0.cell? (newA w) = some (.int .i64 c) := cell_new0 _ _ _
  have a1 : w0.cell? ((newA w).add 1) = some (.int .i64 n) := cell_new _ _ _ _
  have a2 : w0.cell? ((newA w).add 2) = some (.int .i64 b) := cell_new _ _ _ _
  clear_value w0
  have h0 := Els.keep LogC.stab h hb0
  refine (check_spec h0).mono ?_
  rintro _ w1 ⟨rfl, hb1'⟩
  have hb1 : Below w.heap.size w w1 := hb0.next hb1' (Nat.le_refl _)
  refine ⟨_, rfl, cond_n (fun hne => bad _ hb1 fun hh => ok01.1 hne hh.1) fun he => ?_⟩
  have hok : logsOk (-1) gs = true := Classical.byContradiction fun hn => ok01.2 hn he
  refine ⟨c, hb1'.here a0, (client_spec c w1).mono ?_⟩
  rintro _ _ ⟨rfl, rfl⟩
  refine ⟨_, rfl, cond_not (fun hc => bad _ hb1 fun hh => by rw [hh.2.1] at hc; cases hc) fun hc => ⟨b, hb1'.here a2, ?_⟩⟩
  refine (body_spec b w1).mono ?_
  rintro _ _ ⟨rfl, rfl⟩
  refine ⟨_, rfl, cond_not (fun hc' => bad _ hb1 fun hh => by rw [hh.2.2.1] at hc'; cases hc') fun hbd => ⟨n, hb1'.here a1, cond_d (fun hlt => bad _ hb1 fun hh => by omega) fun hn1 => ?_⟩⟩
  have h1 := Els.keep LogC.stab h0 hb1'
  have hfit := ok_fit hok
  have hrng := lkp_rng hok c
  have hcond : logsOk (-1) gs = true ∧ okClient c = true ∧ okBody b = true ∧ 1 ≤ n := ⟨hok, hc, hbd, by omega⟩
  unfold logs_Put.c1
  refine ⟨c, hb1'.here a0, (of_spec h1 hfit c).mono ?_⟩
  rintro _ w2 ⟨s2, rfl, ⟨L, hL, h2⟩, hb2⟩
  have hp := pos_get c gs
  rw [← hL, List.getElem?_map, Option.map_eq_some_iff] at hp
  obtain ⟨y, hy, hyl⟩ := hp
  have hplt := (List.getElem?_eq_some_iff.1 hy).1
  have hl2 : s2.len = L.length := (h2.rowLen 0 rfl).1
  have hLs : L.length ≤ 1001 := by have := insR_le c gs; have := hfit.1; rw [← hL, List.length_map] at *; omega
  obtain ⟨q, hq, c2, hyn, c0, c1, -⟩ := grow_spec h2 hy (by rw [hyl]; omega) b
  have hb12 : Below w.heap.size w w2 := hb1.next hb2 (Nat.le_refl _)
  refine ⟨_, _, _, _, rfl, by omega, by omega, q, hq, ?_⟩
  simp only [Int.toNat_natCast]
  refine ⟨_, c0, _, c1, _, _, _, c2, ?_⟩
  refine (has_spec y.1.c y.1.f y.2 w2 (by rw [hyl]; omega) (by rw [hyn, hyl]; omega)).mono ?_
  rintro _ w3 ⟨rfl, hb3⟩
  have e : y.1.f + (y.2.len : Int) = tot (lkp c gs) := by rw [hyn, ← hyl]; rfl
  have htot : 0 ≤ tot (lkp c gs) ∧ tot (lkp c gs) ≤ 1073741856 := by unfold tot; omega
  rw [e]
  have hb13 : Below w.heap.size w w3 := hb12.next hb3 (Nat.le_refl _)
  have hb01 := hb1'.next hb2 (by exact Nat.le_refl _)
  have hb03 : Below w0.heap.size w0 w3 := hb01.next hb3 (Nat.le_refl _)
  have hX : ∀ {X : List Log × Bool × Int}, putR c n b gs = X → ∀ w', Below w.heap.size w w' → X.1 = [] → (∃ s' : Sl, Value.tuple #[.slice none 0 0, .bool X.2.1, .int .i64 X.2.2] = .tuple #[.slice s'.a s'.len s'.cap, .bool (putR c n b gs).2.1, .int .i64 (putR c n b gs).2.2] ∧ New w.heap.size w' s' (putR c n b gs).1 ∧ Below w.heap.size w w') := by
    rintro X rfl w' hb hx
    refine ⟨⟨none, 0, 0⟩, rfl, ?_, hb⟩
    rw [hx]; exact New.nil hb.size
  refine ⟨_, rfl, n, hb03.here a1, cond_d (fun hle => ?_) fun hgt => ?_⟩
  · have hR : putR c n b gs = (gs, false, 0) := by unfold putR; rw [if_pos hcond, if_pos hle]
    have h3 := Els.keep LogC.stab h hb13
    refine (twin_spec h3 hfit).mono ?_
    rintro _ w4 ⟨s4, rfl, hN, hb4⟩
    rw [hR]
    exact ⟨_, _, _, rfl, s4, rfl, hN.lower hb13.size, hb13.next hb4 (Nat.le_refl _)⟩
  · refine ⟨n, hb03.here a1, cond_d (fun hgt2 => ?_) fun hle2 => ?_⟩
    · have hR : putR c n b gs = ([], false, 14) := by
        unfold putR
        rw [w64 (by omega)] at hgt2
        rw [if_pos hcond, if_neg hgt, if_pos (by omega)]
      exact hX hR _ hb13 rfl
    · rw [w64 (by omega)] at hle2
      have h3 := h2.keep hb3
      refine ⟨by omega, by omega, q, hq, _, _, _, hb3.here c2, cond_d (fun h32 => ?_) fun h32 => ?_⟩
      · have hR : putR c n b gs = ([], false, 20) := by
          unfold putR
          rw [if_pos hcond, if_neg hgt, if_neg (by omega), if_pos (by rw [← hyl]; omega)]
        exact hX hR _ hb13 rfl
      · have hR : putR c n b gs = (addR c b gs, true, 0) := by
          unfold putR
          rw [if_pos hcond, if_neg hgt, if_neg (by omega), if_neg (by rw [← hyl]; omega)]
        rw [hR]
        have hb03d : Below w0.heap.size w0 w3.drew := hb03.drew
        obtain ⟨q', hq', c2, hyn, c0, c1, c2', t, w4, hr, htl, hwr, h4, hb4⟩ := grow_spec h3.drew hy (by rw [hyl]; omega) b
        rw [hq] at hq'
        obtain rfl := Option.some.inj hq'
        refine ⟨fun x => x.cell? ((q.add (pos c gs * 3)).add 2) = some (.slice y.2.a y.2.len y.2.cap) ∧ x.cell? ((newA w).add 2) = some (.int .i64 b), ⟨c2, hb03d.here a2⟩, by omega, by omega, q, hq, _, _, _, fun x hx => hx.1, b, fun x hx => hx.2, ⟨c2', cell_alloc_old (hb03d.here a2)⟩, ?_⟩
        refine ⟨_, _, _, w4, hr, by omega, by omega, q, hq, hwr, ?_⟩
        refine (cloneN_spec h4 (by rw [List.length_set]; exact hLs)).mono ?_
        rintro _ w5 ⟨s5, rfl, hN, hb5⟩
        refine ⟨_, _, _, rfl, s5, rfl, ?_, (hb13.drew.trans (hb4.mono hb1.size)).next hb5 (Nat.le_refl _)⟩
        have := hN.lower (hb1.size)
        rwa [List.map_set, hL, hyl, pos_set] at this

end Go.Proofs.Ytcegohgmagppbaa
