/-
  LogsMeet, the plain law: who is told what it wants has in the end what the other one has.
-/
import Derived.Test.YtcegohgmagppbaaLgR
import Derived.Test.YtcegohgmagppbaaLgIn
set_option linter.unusedVariables false
set_option linter.unusedVariables false
set_option linter.unusedSimpArgs false
namespace Go.Proofs.Ytcegohgmagppbaa
open Go.Lf Go.RowKit

def Canon (gs : List Log) : Prop := ∀ g ∈ gs, g.f = 0 ∧ g.b ≠ []
def cnt (c : Int) (gs : List Log) : Nat := (lkp c gs).b.length
def total (gs : List Log) : Nat := cnt 0 gs + cnt 1 gs + cnt 2 gs + cnt 3 gs + cnt 4 gs + cnt 5 gs + cnt 6 gs + cnt 7 gs

theorem mem_add {c b : Int} : ∀ {gs : List Log} {g : Log}, g ∈ addR c b gs → g ∈ gs ∨ g = ⟨c, (lkp c gs).f, (lkp c gs).b ++ [b]⟩
  | [], g, h => by
    have h' : g ∈ [(⟨c, 0, [b]⟩ : Log)] := h
    simp at h'
    exact .inr h'
  | x :: r, g, h => by
    unfold addR at h
    unfold lkp
    split at h
    · rename_i h1
      rw [if_pos h1]
      rcases List.mem_cons.1 h with rfl | h
      · exact .inl (by simp)
      · rcases mem_add h with h | h
        · exact .inl (List.mem_cons_of_mem _ h)
        · exact .inr h
    · rename_i h1
      rw [if_neg h1]
      split at h
      · rename_i h2
        rw [if_pos h2]
        rcases List.mem_cons.1 h with rfl | h
        · right; rw [h2]
        · exact .inl (List.mem_cons_of_mem _ h)
      · rename_i h2
        rw [if_neg h2]
        rcases List.mem_cons.1 h with rfl | h
        · exact .inr rfl
        · exact .inl h

theorem Canon.lkp {gs : List Log} (h : Canon gs) (c : Int) : (lkp c gs).f = 0 := by
  rcases lkp_mem (c := c) (gs := gs) with h1 | h1
  · exact (h _ h1).1
  · rw [h1]
theorem Canon.tot {gs : List Log} (h : Canon gs) (c : Int) : tot (Ytcegohgmagppbaa.lkp c gs) = (cnt c gs : Int) := by
  unfold Ytcegohgmagppbaa.tot cnt; rw [h.lkp]; omega
theorem Canon.add {gs : List Log} (h : Canon gs) (c b : Int) : Canon (addR c b gs) := by
  intro g hg
  rcases mem_add hg with hg | rfl
  · exact h g hg
  · exact ⟨h.lkp c, by simp⟩
theorem Canon.nil : Canon [] := fun g hg => by simp at hg

theorem canon_eq : ∀ {gs hs : List Log} {l : Int}, logsOk l gs = true → logsOk l hs = true → Canon gs → Canon hs → (∀ c, (lkp c gs).b = (lkp c hs).b) → gs = hs
  | [], [], _, _, _, _, _, _ => rfl
  | [], h :: r, _, _, _, _, hc, he => by
    have := he h.c
    have h2 : lkp h.c (h :: r) = h := by unfold lkp; rw [if_neg (by omega), if_pos rfl]
    rw [h2] at this
    exact absurd this.symm (hc h (by simp)).2
  | g :: r, [], _, _, _, hc, _, he => by
    have := he g.c
    have h2 : lkp g.c (g :: r) = g := by unfold lkp; rw [if_neg (by omega), if_pos rfl]
    rw [h2] at this
    exact absurd this (hc g (by simp)).2
  | g :: r, h :: r', l, hg, hh, cg, ch, he => by
    have hg1 : lkp g.c (g :: r) = g := by unfold lkp; rw [if_neg (by omega), if_pos rfl]
    have hh1 : lkp h.c (h :: r') = h := by unfold lkp; rw [if_neg (by omega), if_pos rfl]
    unfold logsOk at hg hh
    rw [Bool.and_eq_true] at hg hh
    have hcc : g.c = h.c := by
      rcases Int.lt_trichotomy g.c h.c with hlt | heq | hgt
      · have := he g.c
        have h2 : lkp g.c (h :: r') = ⟨g.c, 0, []⟩ := by unfold lkp; rw [if_neg (by omega), if_neg (by omega)]
        rw [hg1, h2] at this
        exact absurd this (cg g (by simp)).2
      · exact heq
      · have := he h.c
        have h2 : lkp h.c (g :: r) = ⟨h.c, 0, []⟩ := by unfold lkp; rw [if_neg (by omega), if_neg (by omega)]
        rw [hh1, h2] at this
        exact absurd this.symm (ch h (by simp)).2
    have hb : g.b = h.b := by
      have := he g.c
      rw [hg1, hcc, hh1] at this
      exact this
    have hgh : g = h := by
      have f1 := (cg g (by simp)).1
      have f2 := (ch h (by simp)).1
      cases g; cases h; simp only at hcc hb f1 f2; subst hcc; subst hb; subst f1; subst f2; rfl
    subst hgh
    congr 1
    refine canon_eq hg.2 hh.2 (fun x hx => cg x (List.mem_cons_of_mem _ hx)) (fun x hx => ch x (List.mem_cons_of_mem _ hx)) fun c => ?_
    by_cases hc : g.c < c
    · have := he c
      have e1 : lkp c (g :: r) = lkp c r := by
        show (if g.c < c then lkp c r else _) = _; rw [if_pos hc]
      have e2 : lkp c (g :: r') = lkp c r' := by
        show (if g.c < c then lkp c r' else _) = _; rw [if_pos hc]
      rw [e1, e2] at this; exact this
    · rw [lkp_ge hg.2 (by omega), lkp_ge hh.2 (by omega)]

theorem cnt_add {c b : Int} {gs : List Log} (hok : logsOk (-1) gs = true) (hc : -1 < c) (d : Int) : cnt d (addR c b gs) = cnt d gs + if d = c then 1 else 0 := by
  unfold cnt
  rw [lkp_add d hok hc]
  split
  · rename_i e; subst e; simp
  · simp

theorem total_add {c b : Int} {gs : List Log} (hok : logsOk (-1) gs = true) (hcl : okClient c = true) : total (addR c b gs) = total gs + 1 := by
  simp only [okClient, Bool.and_eq_true, decide_eq_true_eq] at hcl
  unfold total
  simp only [cnt_add hok (show -1 < c by omega)]
  have : c = 0 ∨ c = 1 ∨ c = 2 ∨ c = 3 ∨ c = 4 ∨ c = 5 ∨ c = 6 ∨ c = 7 := by omega
  rcases this with rfl | rfl | rfl | rfl | rfl | rfl | rfl | rfl <;> simp <;> omega

/-! what was said -/

structure Ms where
  c : Int
  n : Int
  b : Int

def Told (gs : List Log) (m : Ms) : Prop := okClient m.c = true ∧ okBody m.b = true ∧ 1 ≤ m.n ∧ m.n ≤ 32 ∧ (lkp m.c gs).b[(m.n - 1).toNat]? = some m.b

theorem Told.add {gs : List Log} {m : Ms} (h : Told gs m) (hok : logsOk (-1) gs = true) {c b : Int} (hc : -1 < c) : Told (addR c b gs) m := by
  obtain ⟨h1, h2, h3, h4, h5⟩ := h
  refine ⟨h1, h2, h3, h4, ?_⟩
  rw [lkp_add m.c hok hc]
  split
  · rename_i e
    rw [← e]
    show ((lkp m.c gs).b ++ [b])[_]? = _
    rw [List.getElem?_append_left (List.getElem?_eq_some_iff.1 h5).1]; exact h5
  · exact h5

structure Said (ga : List Log) (al : List Ms) : Prop where
  ok : logsOk (-1) ga = true
  canon : Canon ga
  told : ∀ m ∈ al, Told ga m
  total : total ga = al.length

theorem Said.nil : Said [] [] := ⟨rfl, Canon.nil, fun m h => by simp at h, rfl⟩

/-- one more is said -/
theorem Said.say {ga : List Log} {al : List Ms} (h : Said ga al) {c b : Int} (hc : okClient c = true) (hb : okBody b = true) :
    sayR c b ga = ([], 0, 20) ∨ (sayR c b ga = (addR c b ga, (cnt c ga : Int) + 1, 0) ∧ Said (addR c b ga) (al ++ [⟨c, (cnt c ga : Int) + 1, b⟩])) := by
  have hcl := hc
  simp only [okClient, Bool.and_eq_true, decide_eq_true_eq] at hcl
  unfold sayR
  rw [if_pos ⟨h.ok, hc, hb⟩]
  split
  · exact .inl rfl
  · rename_i h32
    right
    rw [h.canon.tot]
    refine ⟨rfl, addR_ok hc hb h.ok (by omega) (by omega), h.canon.add c b, fun m hm => ?_, by rw [total_add h.ok hc, h.total, List.length_append]; rfl⟩
    rcases List.mem_append.1 hm with hm | hm
    · exact (h.told m hm).add h.ok (by omega)
    · simp at hm
      subst hm
      refine ⟨hc, hb, by show (1 : Int) ≤ (cnt c ga : Int) + 1; omega, by show (cnt c ga : Int) + 1 ≤ 32; unfold cnt; omega, ?_⟩
      show (lkp c (addR c b ga)).b[((cnt c ga : Int) + 1 - 1).toNat]? = some b
      rw [lkp_add c h.ok (by omega), if_pos rfl]
      have : ((cnt c ga : Int) + 1 - 1).toNat = (lkp c ga).b.length := by unfold cnt; omega
      rw [this]
      simp

/-! who has a beginning of it -/

structure Pre (gb ga : List Log) : Prop where
  ok : logsOk (-1) gb = true
  canon : Canon gb
  pre : ∀ c, (lkp c gb).b <+: (lkp c ga).b

theorem Pre.nil (ga : List Log) : Pre [] ga := ⟨rfl, Canon.nil, fun c => List.nil_prefix⟩

theorem prefix_more {α : Type} {p l : List α} {x : α} (h : p <+: l) (hx : l[p.length]? = some x) : p ++ [x] <+: l := by
  obtain ⟨t, rfl⟩ := h
  rw [List.getElem?_append_right (Nat.le_refl _), Nat.sub_self] at hx
  cases t with
  | nil => simp at hx
  | cons y t =>
    simp at hx; subst hx
    exact ⟨t, by simp⟩

theorem Pre.add {gb ga : List Log} (h : Pre gb ga) {c b : Int} (hc : okClient c = true) (hb : okBody b = true) (h32 : cnt c gb < 32) (hx : (lkp c ga).b[cnt c gb]? = some b) : Pre (addR c b gb) ga := by
  have hcl := hc
  simp only [okClient, Bool.and_eq_true, decide_eq_true_eq] at hcl
  refine ⟨addR_ok hc hb h.ok (by omega) h32, h.canon.add c b, fun d => ?_⟩
  rw [lkp_add d h.ok (by omega)]
  split
  · rename_i e
    subst e
    exact prefix_more (h.pre d) hx
  · exact h.pre d

theorem Pre.cnt_le {gb ga : List Log} (h : Pre gb ga) (c : Int) : cnt c gb ≤ cnt c ga := (h.pre c).length_le
theorem Pre.total_le {gb ga : List Log} (h : Pre gb ga) : total gb ≤ total ga := by
  unfold total
  have := h.cnt_le 0; have := h.cnt_le 1; have := h.cnt_le 2; have := h.cnt_le 3; have := h.cnt_le 4; have := h.cnt_le 5; have := h.cnt_le 6; have := h.cnt_le 7
  omega

/-- a message of all is put -/
theorem Pre.put {gb ga : List Log} (h : Pre gb ga) {m : Ms} (hm : Told ga m) :
    (putR m.c m.n m.b gb = (gb, false, 0)) ∨ (putR m.c m.n m.b gb = ([], false, 14)) ∨ (putR m.c m.n m.b gb = (addR m.c m.b gb, true, 0) ∧ Pre (addR m.c m.b gb) ga) := by
  obtain ⟨h1, h2, h3, h4, h5⟩ := hm
  unfold putR
  rw [if_pos ⟨h.ok, h1, h2, h3⟩, h.canon.tot]
  split
  · exact .inl rfl
  · split
    · exact .inr (.inl rfl)
    · have hn : (cnt m.c gb : Int) = m.n - 1 := by omega
      have h32 : cnt m.c gb < 32 := by omega
      rw [if_neg (by show ¬ 32 ≤ cnt m.c gb; omega)]
      exact .inr (.inr ⟨rfl, h.add h1 h2 h32 (by rw [show cnt m.c gb = (m.n - 1).toNat by omega]; exact h5)⟩)

theorem hv_cnt {gb : List Log} (hok : logsOk (-1) gb = true) (hcn : Canon gb) {g : Log} (h0 : 0 ≤ g.c) (h8 : g.c < 8) : hv (haveL gb) g = (cnt g.c gb : Int) := by
  unfold hv haveL
  rw [if_pos hok, haves_get gb (by omega), show ((g.c.toNat : Nat) : Int) = g.c by omega, hcn.tot]; rfl

/-- nothing is wanted: both have the same -/
theorem Pre.wantNone {gb ga : List Log} (h : Pre gb ga) (hok : logsOk (-1) ga = true) (hcn : Canon ga) (hw : wantG (haveL gb) ga = none) : ga = gb := by
  unfold wantG at hw
  rw [if_pos ⟨hok, haveL_length gb⟩, List.find?_eq_none] at hw
  refine canon_eq hok h.ok hcn h.canon fun c => ?_
  rcases lkp_mem (c := c) (gs := ga) with hm | hm
  · have hr := logsOk_mem hok _ hm
    have := hw _ hm
    rw [lkp_c] at hr
    unfold wants at this
    rw [hv_cnt h.ok h.canon (by rw [lkp_c]; omega) (by rw [lkp_c]; omega), (hcn _ hm).1, lkp_c] at this
    have hle : (lkp c ga).b.length ≤ (lkp c gb).b.length := by
      have hnot : ¬ (cnt c gb : Int) < 0 + ((lkp c ga).b.length : Int) := by
        intro hh
        apply this
        simp only [Bool.and_eq_true, decide_eq_true_eq]
        exact ⟨⟨by omega, hh⟩, by omega⟩
      unfold cnt at hnot
      omega
    exact ((h.pre c).eq_of_length_le hle).symm
  · have := h.pre c
    rw [hm] at this ⊢
    have : (lkp c gb).b = [] := List.prefix_nil.1 this
    rw [this]

/-- what is wanted is the next one -/
theorem Pre.wantSome {gb ga : List Log} (h : Pre gb ga) (hok : logsOk (-1) ga = true) (hcn : Canon ga) {g : Log} (hw : wantG (haveL gb) ga = some g) :
    ∃ b : Int, msgOf (haveL gb) (wantG (haveL gb) ga) = (g.c, (cnt g.c gb : Int) + 1, b, true) ∧ putR g.c ((cnt g.c gb : Int) + 1) b gb = (addR g.c b gb, true, 0) ∧
      putR g.c ((cnt g.c gb : Int) + 1) b (addR g.c b gb) = (addR g.c b gb, false, 0) ∧ Pre (addR g.c b gb) ga ∧ total (addR g.c b gb) = total gb + 1 ∧ cnt g.c gb < 32 := by
  rw [hw]
  unfold wantG at hw
  rw [if_pos ⟨hok, haveL_length gb⟩] at hw
  have hm := List.mem_of_find?_eq_some hw
  have hp := List.find?_some hw
  have hr := logsOk_mem hok g hm
  have hlk := lkp_of_mem hok g hm rfl
  have hv' := hv_cnt h.ok h.canon hr.2.1 hr.2.2.1
  unfold wants at hp
  rw [hv', (hcn g hm).1] at hp
  simp only [Bool.and_eq_true, decide_eq_true_eq] at hp
  have hlt : cnt g.c gb < g.b.length := by omega
  have hx : g.b[cnt g.c gb]? = some (g.b[cnt g.c gb]?.getD 0) := by rw [List.getElem?_eq_getElem hlt]; rfl
  obtain ⟨b, hb⟩ : ∃ b, b = g.b[cnt g.c gb]?.getD 0 := ⟨_, rfl⟩
  rw [← hb] at hx
  have hbr := hr.2.2.2.2.2.2 b (List.mem_of_getElem? hx)
  have hcl : okClient g.c = true := by simp [okClient]; omega
  have hbk : okBody b = true := by simp [okBody]; omega
  have h32 : cnt g.c gb < 32 := by omega
  have hxa : (lkp g.c ga).b[cnt g.c gb]? = some b := by rw [hlk]; exact hx
  have hpre := h.add hcl hbk h32 hxa
  refine ⟨b, ?_, ?_, ?_, hpre, total_add h.ok hcl, h32⟩
  · show (g.c, hv (haveL gb) g + 1, g.b[(hv (haveL gb) g - g.f).toNat]?.getD 0, true) = _
    rw [hv', (hcn g hm).1, hb]
    simp
  · unfold putR
    rw [if_pos ⟨h.ok, hcl, hbk, by omega⟩, h.canon.tot, if_neg (by omega), if_neg (by omega), if_neg (by show ¬ 32 ≤ cnt g.c gb; omega)]
  · unfold putR
    rw [if_pos ⟨hpre.ok, hcl, hbk, by omega⟩, hpre.canon.tot, cnt_add h.ok (by omega), if_pos rfl, if_pos (by push_cast; omega)]

end Go.Proofs.Ytcegohgmagppbaa

/-
  LogsMeet: the law's walk.
-/
set_option linter.unusedVariables false
set_option linter.unusedSimpArgs false
namespace Go.Proofs.Ytcegohgmagppbaa
open Go.Lf Go.RowKit

theorem info_msg : ∃ i, Try.prog.info? 32 = some i ∧ i.zero = some (.agg #[.int .i64 0, .int .i64 0, .int .i64 0]) ∧ i.size = 3 ∧ i.bytes = 24 := ⟨Try.t32, by kernel_rfl, by kernel_rfl, by kernel_rfl, by kernel_rfl⟩

def msV (m : Ms) : List Value := [.int .i64 m.c, .int .i64 m.n, .int .i64 m.b]
def msA (s : Sl) (al : List Ms) : Asn := rowA 32 3 s al.length (flat msV al)
theorem msV_length (m : Ms) : (msV m).length = 3 := rfl
theorem one_ms (m : Ms) : ∀ u ∈ msV m, u.oneCell' = true := by
  intro u hu
  simp only [msV, List.mem_cons, List.not_mem_nil, or_false] at hu
  rcases hu with rfl | rfl | rfl <;> rfl

section
variable {W : World} {a : Sl} {ga : List Log}

theorem meet_c1 {w : World} {b : Sl} (hb : Below W.heap.size W w) (hA : Logs w a ga) (hB : Logs w b ga) : trystlaw25_LogsMeet.c1 (RT0 W) a b w := by
  unfold trystlaw25_LogsMeet.c1
  refine (klogs_spec hA hB).mono ?_
  rintro _ w1 ⟨⟨t, rfl, ht⟩, hb1⟩
  have hA1 := Els.keep LogC.stab hA hb1
  have hB1 := Els.keep LogC.stab hB hb1
  refine ⟨_, rfl, cond_t (ht.2 rfl) ((have_spec hA1).mono ?_)⟩
  rintro _ w2 ⟨x, rfl, hx, hb2⟩
  refine ⟨_, _, _, rfl, (have_spec (Els.keep LogC.stab hB1 hb2)).mono ?_⟩
  rintro _ w3 ⟨y, rfl, hy, hb3⟩
  have h8 := haveL_length ga
  refine ⟨_, _, _, rfl, (ints_spec ((hx.ints (by omega)).keep hb3) (hy.ints (by omega))).mono ?_⟩
  rintro _ w4 ⟨rfl, hs4⟩
  refine ⟨_, rfl, cond_t (by simp) ((wakes_spec w4).mono ?_)⟩
  rintro _ w5 ⟨rfl, hb5⟩
  exact ⟨_, rfl, rfl, ((((hb.next hb1 (Nat.le_refl _)).next hb2 (Nat.le_refl _)).next hb3 (Nat.le_refl _)).trans (hs4.below _)).next hb5 (Nat.le_refl _)⟩

/-- what is wanted is told, one by one -/
theorem meet_c4 {w : World} {b all : Sl} {gb : List Log} {n : Nat} (hb : Below W.heap.size W w) (hA : Logs w a ga) (hok : logsOk (-1) ga = true) (hcn : Canon ga) (hB : Logs w b gb) (hP : Pre gb ga) (hall : all.len = n) (hn : total ga = n) (hn60 : n ≤ 1000) :
    trystlaw25_LogsMeet.c4 (RT0 W) a b all w := by
  unfold trystlaw25_LogsMeet.c4 trystlaw25_LogsMeet.l2
  refine ⟨fun t w' => ∃ i : Nat, t.2 = i ∧ (∃ gb : List Log, Logs w' t.1 gb ∧ Pre gb ga ∧ i ≤ total gb) ∧ Below w.heap.size w w', fun t _ => n + 1 - t.2.toNat, ⟨0, rfl, ⟨gb, hB, hP, Nat.zero_le _⟩, Below.refl _ _⟩, ?_⟩
  rintro ⟨s, _⟩ w1 ⟨i, rfl, ⟨gb, hB, hP, hi⟩, hb1⟩
  dsimp only at hB ⊢
  have hA1 := Els.keep LogC.stab hA hb1
  have hle := hP.total_le
  have hbW := hb.next hb1 (Nat.le_refl _)
  unfold trystlaw25_LogsMeet.b2
  refine cond_d (fun hlt => ?_) fun hge => by omega
  refine (have_spec hB).mono ?_
  rintro _ w2 ⟨h, rfl, ho, hb2⟩
  have hI := ho.ints (by rw [haveL_length]; omega)
  refine ⟨_, _, _, rfl, (want_spec (Els.keep LogC.stab hA1 hb2) hI).mono ?_⟩
  rintro _ w3 ⟨rfl, hb3⟩
  cases hw : wantG (haveL gb) ga with
  | none =>
    refine ⟨_, _, _, _, rfl, fun j hj => wr_new _ _ _ hj, ?_⟩
    rw [box_set3]
    have hb4 := below_alloc w3 (.cells #[.int .i64 (msgOf (haveL gb) none).1, .int .i64 (msgOf (haveL gb) none).2.1, .int .i64 (msgOf (haveL gb) none).2.2.1] 32)
    have hb14 := (hb2.next hb3 (Nat.le_refl _)).next hb4 (Nat.le_refl _)
    have he := hP.wantNone hok hcn hw
    rw [← he] at hB
    exact cond_t rfl (meet_c1 (hbW.next hb14 (Nat.le_refl _)) (Els.keep LogC.stab hA1 hb14) (Els.keep LogC.stab hB hb14))
  | some g =>
    obtain ⟨bd, hm, hp1, hp2, hP', htot, h32⟩ := hP.wantSome hok hcn hw
    rw [← hw, hm]
    refine ⟨_, _, _, _, rfl, fun j hj => wr_new _ _ _ hj, ?_⟩
    rw [box_set3]
    have hb4 := below_alloc w3 (.cells #[.int .i64 g.c, .int .i64 ((cnt g.c gb : Int) + 1), .int .i64 bd] 32)
    have a0 : (w3.alloc (.cells #[.int .i64 g.c, .int .i64 ((cnt g.c gb : Int) + 1), .int .i64 bd] 32)).cell? (newA w3) = some (.int .i64 g.c) := cell_new0 _ _ _
    have a1 : (w3.alloc (.cells #[.int .i64 g.c, .int .i64 ((cnt g.c gb : Int) + 1), .int .i64 bd] 32)).cell? ((newA w3).add 1) = some (.int .i64 ((cnt g.c gb : Int) + 1)) := cell_new _ _ _ _
    have a2 : (w3.alloc (.cells #[.int .i64 g.c, .int .i64 ((cnt g.c gb : Int) + 1), .int .i64 bd] 32)).cell? ((newA w3).add 2) = some (.int .i64 bd) := cell_new _ _ _ _
    have hb14 := (hb2.next hb3 (Nat.le_refl _)).next hb4 (Nat.le_refl _)
    generalize w3.alloc (.cells #[.int .i64 g.c, .int .i64 ((cnt g.c gb : Int) + 1), .int .i64 bd] 32) = w4 at hb4 a0 a1 a2 hb14 ⊢
    refine cond_f' rfl ⟨_, a0, _, a1, _, a2, (put_spec (Els.keep LogC.stab hB hb14) g.c ((cnt g.c gb : Int) + 1) bd (by omega)).mono ?_⟩
    rintro _ w5 ⟨s5, rfl, hN5, hb5⟩
    rw [hp1] at hN5 ⊢
    have hL5 := hN5.logs (ok_fit hP'.ok)
    refine ⟨_, _, _, _, _, rfl, cond_f' rfl (cond_f' rfl ?_)⟩
    unfold trystlaw25_LogsMeet.c3
    refine ⟨_, hb5.here a0, _, hb5.here a1, _, hb5.here a2, (put_spec hL5 g.c ((cnt g.c gb : Int) + 1) bd (by omega)).mono ?_⟩
    rintro _ w6 ⟨s6, rfl, hN6, hb6⟩
    have hp2' : putR g.c ((cnt g.c gb : Int) + 1) bd (addR g.c bd gb, true, (0 : Int)).1 = (addR g.c bd gb, false, 0) := hp2
    rw [hp2'] at hN6 ⊢
    refine ⟨_, _, _, _, _, rfl, cond_f' rfl (cond_f' rfl ((klogs_spec (hN6.logs (ok_fit hP'.ok)) (Els.keep LogC.stab hL5 hb6)).mono ?_))⟩
    rintro _ w7 ⟨⟨t, rfl, ht⟩, hb7⟩
    refine ⟨_, rfl, cond_f' (by rw [ht.2 rfl]; rfl) ?_⟩
    have hb57 := hb6.next hb7 (Nat.le_refl _)
    have hb17 := (hb14.next hb5 (Nat.le_refl _)).next hb57 (Nat.le_refl _)
    rw [inc (by omega)]
    exact ⟨⟨rfl, rfl, i + 1, rfl, ⟨addR g.c bd gb, Els.keep LogC.stab hL5 hb57, hP', by omega⟩, hb1.next hb17 (Nat.le_refl _)⟩, by (try dsimp only); omega⟩

/-- some of it is put ahead -/
theorem meet_c7 {w : World} {had all : Sl} {al : List Ms} {hs : List Int} (hb : Below W.heap.size W w) (hA : Logs w a ga) (hS : Said ga al) (hH : Ints .i64 w had hs) (hR : Sep W.heap.size w [msA all al]) (hn : al.length ≤ 1000) :
    trystlaw25_LogsMeet.c7 (RT0 W) had a ⟨none, 0, 0⟩ all w := by
  have hal : all.len = al.length := (hR.rowLen 0 rfl).1
  have hhl := hH.len
  unfold trystlaw25_LogsMeet.c7 trystlaw25_LogsMeet.l5
  refine ⟨fun t w' => ∃ i : Nat, t.2 = i ∧ i ≤ al.length ∧ (∃ gb : List Log, Logs w' t.1 gb ∧ Pre gb ga) ∧ Below w.heap.size w w', fun t _ => al.length - t.2.toNat, ⟨0, rfl, Nat.zero_le _, ⟨[], Logs.nil, Pre.nil ga⟩, Below.refl _ _⟩, ?_⟩
  rintro ⟨s, _⟩ w1 ⟨i, rfl, hi, ⟨gb, hB, hP⟩, hb1⟩
  dsimp only at hB ⊢
  have hA1 := Els.keep LogC.stab hA hb1
  have hbW := hb.next hb1 (Nat.le_refl _)
  have hend : trystlaw25_LogsMeet.c4 (RT0 W) a s all w1 := meet_c4 hbW hA1 hS.ok hS.canon hB hP hal hS.total hn
  unfold trystlaw25_LogsMeet.b5
  refine cond_d (fun hlt => cond_d (fun hlt2 => ?_) fun _ => hend) fun _ => hend
  have hil : i < al.length := by omega
  obtain ⟨m, hm⟩ : ∃ m, al[i]? = some m := ⟨_, List.getElem?_eq_getElem hil⟩
  obtain ⟨q, hq, hcq⟩ := Sep.rowGet 0 (by omega) msV_length rfl hR hm
  have m0 := hcq 0 _ rfl
  rw [add_zero] at m0
  have m1 := hcq 1 _ rfl
  have m2 := hcq 2 _ rfl
  have htm := hS.told m (List.mem_of_getElem? hm)
  have hm3 := htm.2.2.1
  have hm4 := htm.2.2.2.1
  obtain ⟨p, hp, hcp⟩ := (hH.keep hb1).get (i := (i : Int)) (by omega) hlt2
  unfold trystlaw25_LogsMeet.c6
  refine ⟨by omega, hlt2, p, hp, _, hcp, by omega, cond_e (fun _ => ?_) fun _ => ?_⟩
  · simp only [Int.toNat_natCast]
    refine ⟨by omega, hlt, q, hq, _, hb1.here m0, _, hb1.here m1, _, hb1.here m2, (put_spec hB m.c m.n m.b (by omega)).mono ?_⟩
    rintro _ w2 ⟨s2, rfl, hN2, hb2⟩
    have hb12 := hb1.next hb2 (Nat.le_refl _)
    have hB2 := Els.keep LogC.stab hB hb2
    rw [inc (by omega)]
    rcases hP.put htm with hR | hR | ⟨hR, hP'⟩
    · rw [hR] at hN2 ⊢
      refine ⟨_, _, _, _, _, rfl, cond_t rfl ?_⟩
      exact ⟨⟨trivial, trivial, trivial, i + 1, rfl, by omega, ⟨gb, hN2.logs (ok_fit hP.ok), hP⟩, hb12⟩, by (try dsimp only); omega⟩
    · rw [hR] at hN2 ⊢
      refine ⟨_, _, _, _, _, rfl, cond_f' rfl (cond_f' rfl ?_)⟩
      exact ⟨⟨trivial, trivial, trivial, i + 1, rfl, by omega, ⟨gb, hB2, hP⟩, hb12⟩, by (try dsimp only); omega⟩
    · rw [hR] at hN2 ⊢
      refine ⟨_, _, _, _, _, rfl, cond_t rfl ?_⟩
      exact ⟨⟨trivial, trivial, trivial, i + 1, rfl, by omega, ⟨_, hN2.logs (ok_fit hP'.ok), hP'⟩, hb12⟩, by (try dsimp only); omega⟩
  · rw [inc (by omega)]
    exact ⟨⟨rfl, rfl, rfl, i + 1, rfl, by omega, ⟨gb, hB, hP⟩, hb1⟩, by (try dsimp only); omega⟩
end

theorem meet_spec {w : World} {says had order : Sl} {xs : List (Int × Int)} {hs os : List Int} (hX : Els 2 PairC w says xs) (hH : Ints .i64 w had hs) (hO : Ints .i64 w order os) :
    CallsV Try.prog n_trystlaw25_LogsMeet #[.slice says.a says.len says.cap, .slice had.a had.len had.cap, .slice order.a order.len order.cap] w (RT0 w) := by
  refine trystlaw25_LogsMeet.lift ?_
  have hxl := hX.len
  unfold trystlaw25_LogsMeet.main
  refine cond_d (fun _ => ⟨rfl, Below.refl _ _⟩) fun h60 => cond_d (fun _ => ⟨rfl, Below.refl _ _⟩) fun _ => cond_d (fun _ => ⟨rfl, Below.refl _ _⟩) fun _ => ?_
  unfold trystlaw25_LogsMeet.c9 trystlaw25_LogsMeet.l8
  refine ⟨fun t w' => ∃ i : Nat, t.2.2 = i ∧ i ≤ xs.length ∧ (∃ (L : List LS) (al : List Ms), Said (L.map (·.1)) al ∧ al.length ≤ i ∧ Sep w.heap.size w' (msA t.2.1 al :: lgA t.1 L :: L.map bodA)) ∧ Below w.heap.size w w', fun t _ => xs.length - t.2.2.toNat,
    ⟨0, rfl, Nat.zero_le _, ⟨[], [], Said.nil, Nat.le_refl _, ((Sep.nil (Nat.le_refl _)).rowNil 45 3).rowNil 32 3⟩, Below.refl _ _⟩, ?_⟩
  rintro ⟨a, all, _⟩ w1 ⟨i, rfl, hi, ⟨L, al, hS, hal, hR⟩, hb1⟩
  dsimp only at hR ⊢
  have hA : Logs w1 a (L.map (·.1)) := Sep.logs 1 rfl (fun x hx => List.mem_cons_of_mem _ (List.mem_cons_of_mem _ (List.mem_map_of_mem hx))) hR (ok_fit hS.ok)
  have hR1 : Sep w.heap.size w1 [msA all al] := Sep.dropL (l := lgA a L :: L.map bodA) (hR.perm (List.perm_append_comm (l₁ := [msA all al])))
  unfold trystlaw25_LogsMeet.b8
  refine cond_d (fun hlt => ?_) fun hge => meet_c7 hb1 hA hS (hH.keep hb1) hR1 (by omega)
  obtain ⟨p, x, cs, hp, _, hx, hcs, hcx⟩ := Els.get hX (i := (i : Int)) (by omega) hlt
  have hcx : cs = [.int .i64 x.1, .int .i64 x.2] := hcx
  subst hcx
  rw [Int.toNat_natCast] at hcs
  have x0 := hcs 0 _ rfl
  have x1 := hcs 1 _ rfl
  have hb1d := hb1.drew
  obtain ⟨c0, c3⟩ := umod x.1 3 (by omega) (by omega)
  obtain ⟨b0, b3⟩ := umod x.2 1000 (by omega) (by omega)
  generalize hce : IntKind.i64.wrap (Int.tmod (IntKind.u64.wrap x.1) 3) = c at c0 c3
  generalize hbe : IntKind.i64.wrap (Int.tmod (IntKind.u64.wrap x.2) 1000) = b at b0 b3
  have hcl : okClient c = true := by simp [okClient]; omega
  have hbk : okBody b = true := by simp [okBody]; omega
  simp only [Int.toNat_natCast]
  refine ⟨fun y => y.cell? ((p.add (i * 2)).add 0) = some (.int .i64 x.1) ∧ y.cell? ((p.add (i * 2)).add 1) = some (.int .i64 x.2), ⟨hb1d.here x0, hb1d.here x1⟩, by omega, hlt, p, hp, by omega, by omega, x.1, fun y hy => hy.1, by omega, by omega, hlt, p, hp, by omega, by omega, x.2, fun y hy => hy.2, by omega, ?_⟩
  rw [hce, hbe]
  refine (say_spec (Els.keep LogC.stab hA below_drew) c b).mono ?_
  rintro _ w2 ⟨s2, rfl, hN2, hb2⟩
  have hb12 : Below w.heap.size w w2 := hb1d.next hb2 (Nat.le_refl _)
  have hR2 := hR.drew.keep hb2
  rw [inc (by omega)]
  rcases hS.say hcl hbk with hs | ⟨hs, hS'⟩
  · rw [hs]
    refine ⟨_, _, _, _, _, rfl, cond_t rfl ?_⟩
    exact ⟨⟨trivial, trivial, trivial, i + 1, rfl, by omega, ⟨L, al, hS, by omega, hR2⟩, hb12⟩, by (try dsimp only); omega⟩
  · rw [hs] at hN2 ⊢
    refine ⟨_, _, _, _, _, rfl, cond_f' rfl (cond_f' rfl ?_)⟩
    have hb12d := hb12.drew
    refine ⟨fun y => y.cell? ((p.add (i * 2)).add 0) = some (.int .i64 x.1) ∧ y.cell? ((p.add (i * 2)).add 1) = some (.int .i64 x.2), ⟨hb12d.here x0, hb12d.here x1⟩, by omega, hlt, p, hp, by omega, by omega, x.1, fun y hy => hy.1, by omega, by omega, hlt, p, hp, by omega, by omega, x.2, fun y hy => hy.2, by omega, ?_⟩
    rw [hce, hbe]
    obtain ⟨L', hL', hN'⟩ := hN2
    have hJ : Sep w.heap.size w2 ((lgA s2 L' :: L'.map bodA) ++ [msA all al]) := Sep.newL hR1.drew hN'.sep (fun _ hi => hi) hb2
    have hJ2 : Sep w.heap.size w2 (msA all al :: lgA s2 L' :: L'.map bodA) := hJ.perm (List.perm_append_comm (l₂ := [msA all al]))
    have hba := below_alloc w2.drew (.cells #[.int .i64 c, .int .i64 ((cnt c (L.map (·.1)) : Int) + 1), .int .i64 b] 32)
    have hR3 := hJ2.drew.keep hba
    obtain ⟨ti, hti, htz, htsz, htby⟩ := info_msg
    obtain ⟨s3, w3, hr3, hl3, hR4, hb3⟩ := hR3.append (P := Try.prog) (ty := 25) (size := 3) (c := 1) (m := 1) Try.underlying25 hti htz htsz htby rfl (by omega) 0 rfl (a := newA w2.drew) (news := msV ⟨c, (cnt c (L.map (·.1)) : Int) + 1, b⟩) rfl (fun j u hu => by
      refine (cell_new _ _ _ _).trans ?_
      simpa [msV] using hu) (one_ms _) (by unfold maxLen; omega) (by omega) (by omega)
    refine ⟨_, _, _, w3, hr3, ⟨trivial, trivial, trivial, i + 1, rfl, by omega, ⟨L', _, by rw [hL']; exact hS', by rw [List.length_append]; simp; omega, ?_⟩, (hb12d.next hba (Nat.le_refl _)).trans hb3⟩, by (try dsimp only); omega⟩
    unfold msA
    rw [flat_app, flat_one, List.length_append]
    exact hR4

end Go.Proofs.Ytcegohgmagppbaa
