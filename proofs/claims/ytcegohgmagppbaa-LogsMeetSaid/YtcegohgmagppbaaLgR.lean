/-
  LogsGrow: the law's walk.
-/
import Derived.Test.YtcegohgmagppbaaLgQ
set_option linter.unusedVariables false
set_option linter.unusedVariables false
set_option linter.unusedSimpArgs false
namespace Go.Proofs.Ytcegohgmagppbaa
open Go.Lf Go.RowKit

/-! logs whose bodies' rows are known to hold them -/

def LogKC (w : World) (cs : List Value) (g : Log) : Prop := ∃ m : Sl, cs = [.int .i64 g.c, .int .i64 g.f, .slice m.a m.len m.cap] ∧ Ints .i64 w m g.b ∧ m.len ≤ m.cap
theorem LogKC.stab : Stab LogKC := fun _ _ _ _ hb ⟨m, hs, h, hc⟩ => ⟨m, hs, h.keep hb, hc⟩
abbrev LogsK (w : World) (s : Sl) (gs : List Log) : Prop := Els 3 LogKC w s gs

theorem LogsK.logs {w : World} {s : Sl} {gs : List Log} (h : LogsK w s gs) : Logs w s gs :=
  ⟨h.len, h.small, fun i g hg => by obtain ⟨p, cs, hp, hb, hc, m, e, hI, _⟩ := h.el i g hg; exact ⟨p, cs, hp, hb, hc, m, e, hI⟩⟩

theorem New.logsK {B : Nat} {w : World} {s : Sl} {gs : List Log} (h : New B w s gs) (hf : Fit gs) : LogsK w s gs := by
  obtain ⟨L, rfl, h⟩ := h
  have hl := h.rowLen 0 rfl
  refine ⟨by rw [hl.1, List.length_map], by have := hf.1; rw [List.length_map] at this; omega, fun i g hg => ?_⟩
  rw [List.getElem?_map, Option.map_eq_some_iff] at hg
  obtain ⟨x, hx, rfl⟩ := hg
  obtain ⟨q, hq, hc⟩ := Sep.rowGet 0 (by omega) lgV_length rfl h hx
  have hmem := List.mem_of_getElem? hx
  have := hc 0 _ rfl
  have hlt := World.block_lt_of_cell? _ _ this
  rw [add_block, add_block] at hlt
  have hxb : bodA x ∈ lgA s L :: L.map bodA := List.mem_cons_of_mem _ (List.mem_map_of_mem hmem)
  obtain ⟨k, hk, he⟩ := List.getElem_of_mem hxb
  have hkk : (lgA s L :: L.map bodA)[k]? = some (bodA x) := by rw [List.getElem?_eq_getElem hk, he]
  have hcap := h.rowCap k hkk
  have hln := (h.rowLen k hkk).1
  exact ⟨q, lgV x, hq, hlt, fun j u hu => by have := hc j u hu; rwa [add_add] at this, x.2, rfl, Sep.body hxb h (hf.2 _ (List.mem_map_of_mem hmem)), by omega⟩

theorem LogsK.get {w : World} {s : Sl} {gs : List Log} (h : LogsK w s gs) {i : Int} (h0 : 0 ≤ i) (h1 : i < s.len) :
    ∃ p g m, s.a = some p ∧ gs[i.toNat]? = some g ∧ w.cell? (p.add (i.toNat * 3)) = some (.int .i64 g.c) ∧ w.cell? ((p.add (i.toNat * 3)).add 1) = some (.int .i64 g.f) ∧
      w.cell? ((p.add (i.toNat * 3)).add 2) = some (.slice m.a m.len m.cap) ∧ Ints .i64 w m g.b ∧ m.len ≤ m.cap := by
  obtain ⟨p, g, cs, hp, _, hg, hc, m, rfl, hm, hcap⟩ := Els.get h h0 h1
  exact ⟨p, g, m, hp, hg, by have := hc 0 _ rfl; rwa [add_zero] at this, hc 1 _ rfl, hc 2 _ rfl, hm, hcap⟩

theorem _root_.Go.Lf.Ints.take {k : IntKind} {w : World} {s : Sl} {xs : List Int} (h : Ints k w s xs) {n c : Nat} (hn : n ≤ s.len) : Ints k w ⟨s.a, n, c⟩ (xs.take n) := by
  have hl := h.len
  have hsm := h.small
  refine ⟨by rw [List.length_take]; show n = _; omega, by show n ≤ _; omega, fun i x hx => ?_⟩
  rw [List.getElem?_take] at hx
  split at hx
  · exact h.cell i x hx
  · cases hx

/-! what is put or said, in plain Lean -/

theorem grow_same {c b : Int} {gs : List Log} (hok : logsOk (-1) gs = true) (hc : -1 < c) (hok2 : logsOk (-1) (addR c b gs) = true) {g g' : Log} (hg : g ∈ gs) (hg' : g' ∈ addR c b gs) (he : g.c = g'.c) :
    g.f = g'.f ∧ g.b.length ≤ g'.b.length ∧ g'.b.take g.b.length = g.b := by
  have h1 := lkp_of_mem (c := g'.c) hok2 g' hg' rfl
  have h2 := lkp_of_mem (c := g'.c) hok g hg he
  rw [lkp_add g'.c hok hc] at h1
  split at h1
  · rename_i e
    rw [e] at h2
    rw [h2] at h1
    rw [← h1]
    simp
  · rw [h2] at h1
    subst h1
    simp

theorem grow_have {c b : Int} {gs : List Log} (hok : logsOk (-1) gs = true) (hc : -1 < c) {d : Nat} (hd : d < 8) : (haves (addR c b gs))[d]? = some (tot (lkp (d : Int) gs) + if (d : Int) = c then 1 else 0) := by
  rw [haves_get _ hd, lkp_add _ hok hc]
  split
  · rename_i e
    rw [e]
    simp only [tot, List.length_append, List.length_cons, List.length_nil]
    congr 1; push_cast; omega
  · simp

theorem grow_want {c b : Int} {gs : List Log} (hok : logsOk (-1) gs = true) (hcl : okClient c = true) (hok2 : logsOk (-1) (addR c b gs) = true) :
    msgOf ((haveL (addR c b gs)).set c.toNat (tot (lkp c gs))) (wantG ((haveL (addR c b gs)).set c.toNat (tot (lkp c gs))) (addR c b gs)) = (c, tot (lkp c gs) + 1, b, true) := by
  simp only [okClient, Bool.and_eq_true, decide_eq_true_eq] at hcl
  have hH : haveL (addR c b gs) = haves (addR c b gs) := by unfold haveL; rw [if_pos hok2]
  rw [hH]
  have hrng := lkp_rng hok c
  have hvc : ∀ f bs, hv ((haves (addR c b gs)).set c.toNat (tot (lkp c gs))) ⟨c, f, bs⟩ = tot (lkp c gs) := by
    intro f bs
    unfold hv
    rw [List.getElem?_set_self (by rw [haves_length]; omega)]; rfl
  have hf : wantG ((haves (addR c b gs)).set c.toNat (tot (lkp c gs))) (addR c b gs) = some ⟨c, (lkp c gs).f, (lkp c gs).b ++ [b]⟩ := by
    unfold wantG
    rw [if_pos ⟨hok2, by rw [List.length_set, haves_length]⟩]
    refine find_add (fun g hg hne => ?_) ?_
    · have hgm := logsOk_mem hok g hg
      have hv' : hv ((haves (addR c b gs)).set c.toNat (tot (lkp c gs))) g = tot g := by
        unfold hv
        rw [List.getElem?_set_ne (by omega), grow_have hok (by omega) (by omega), show ((g.c.toNat : Nat) : Int) = g.c by omega, if_neg hne, lkp_of_mem hok g hg rfl]
        simp
      unfold wants
      rw [hv']
      simp [tot]
    · unfold wants
      rw [hvc]
      simp only [Bool.and_eq_true, decide_eq_true_eq, List.length_append, List.length_cons, List.length_nil, tot]
      push_cast
      exact ⟨⟨decide_eq_true (by omega), by omega⟩, decide_eq_true (by omega)⟩
  rw [hf]
  show (c, hv ((haves (addR c b gs)).set c.toNat (tot (lkp c gs))) ⟨c, (lkp c gs).f, (lkp c gs).b ++ [b]⟩ + 1, ((lkp c gs).b ++ [b])[(hv ((haves (addR c b gs)).set c.toNat (tot (lkp c gs))) ⟨c, (lkp c gs).f, (lkp c gs).b ++ [b]⟩ - (lkp c gs).f).toNat]?.getD 0, true) = _
  rw [hvc]
  have : (tot (lkp c gs) - (lkp c gs).f).toNat = (lkp c gs).b.length := by unfold tot; omega
  rw [this]
  simp

section
variable {W : World} {l nx : Sl} {gs ns : List Log} {m4 wv : Addr} {c b n : Int}

theorem grow_c1 {w : World} (hb : Below W.heap.size W w) (m0 : w.cell? m4 = some (.int .i64 c)) (m2 : w.cell? (m4.add 2) = some (.int .i64 b))
    (w0 : w.cell? wv = some (.int .i64 c)) (w1 : w.cell? (wv.add 1) = some (.int .i64 n)) (w2 : w.cell? (wv.add 2) = some (.int .i64 b)) : trystlaw25_LogsGrow.c1 (RT0 W) m4 n wv true w := by
  unfold trystlaw25_LogsGrow.c1
  refine cond_t rfl ⟨_, w0, _, m0, cond_t (by simp) ⟨_, w1, cond_t (by simp) ⟨_, w2, _, m2, cond_t (by simp) ((wakes_spec w).mono ?_)⟩⟩⟩
  rintro _ w3 ⟨rfl, hb3⟩
  exact ⟨_, rfl, rfl, hb.next hb3 (Nat.le_refl _)⟩

/-- what was there is there -/
theorem grow_l2 {w : World} (hb : Below W.heap.size W w) (hl : Logs w l gs) (hn : LogsK w nx ns) (hall : ∀ g ∈ gs, ∀ g' ∈ ns, g.c = g'.c → g.f = g'.f ∧ g.b.length ≤ g'.b.length ∧ g'.b.take g.b.length = g.b)
    (m0 : w.cell? m4 = some (.int .i64 c)) (m2 : w.cell? (m4.add 2) = some (.int .i64 b))
    (w0 : w.cell? wv = some (.int .i64 c)) (w1 : w.cell? (wv.add 1) = some (.int .i64 n)) (w2 : w.cell? (wv.add 2) = some (.int .i64 b)) : trystlaw25_LogsGrow.l2 (RT0 W) l m4 nx n wv true 0 w := by
  have hll := hl.len
  have hls := hl.small
  have hnl := hn.len
  have hns := hn.small
  unfold trystlaw25_LogsGrow.l2
  refine ⟨fun t w' => ∃ i : Nat, t = i ∧ i ≤ gs.length ∧ Below w.heap.size w w', fun t _ => gs.length - t.toNat, ⟨0, rfl, Nat.zero_le _, Below.refl _ _⟩, ?_⟩
  rintro _ wa ⟨i, rfl, hi, hba⟩
  unfold trystlaw25_LogsGrow.b2
  refine cond_d (fun hlt => ?_) fun hge => ?_
  · obtain ⟨p, g, m, hp, hg, c0, c1, c2, hm⟩ := Logs.get hl (i := (i : Int)) (by omega) hlt
    rw [Int.toNat_natCast] at hg c0 c1 c2
    unfold trystlaw25_LogsGrow.l3
    refine ⟨fun t w' => ∃ k : Nat, t = k ∧ k ≤ ns.length ∧ Below w.heap.size w w', fun t _ => ns.length - t.toNat, ⟨0, rfl, Nat.zero_le _, hba⟩, ?_⟩
    rintro _ wb ⟨k, rfl, hk, hbb⟩
    unfold trystlaw25_LogsGrow.b3
    refine cond_d (fun hkl => ?_) fun hkg => ?_
    · obtain ⟨p', g', m', hp', hg', d0, d1, d2, hm', hcap⟩ := LogsK.get hn (i := (k : Int)) (by omega) hkl
      rw [Int.toNat_natCast] at hg' d0 d1 d2
      have hbd := hbb.drew
      have hml := hm.len
      have hml' := hm'.len
      refine ⟨fun x => x.cell? (p.add (i * 3)) = some (.int .i64 g.c) ∧ x.cell? ((p.add (i * 3)).add 1) = some (.int .i64 g.f) ∧ x.cell? ((p.add (i * 3)).add 2) = some (.slice m.a m.len m.cap) ∧ x.cell? (p'.add (k * 3)) = some (.int .i64 g'.c) ∧ x.cell? ((p'.add (k * 3)).add 1) = some (.int .i64 g'.f) ∧ x.cell? ((p'.add (k * 3)).add 2) = some (.slice m'.a m'.len m'.cap),
        ⟨hbd.here c0, hbd.here c1, hbd.here c2, hbd.here d0, hbd.here d1, hbd.here d2⟩, ?_⟩
      simp only [Int.toNat_natCast]
      refine ⟨by omega, by omega, p, hp, _, fun x hx => hx.1, by omega, by omega, p', hp', _, fun x hx => hx.2.2.2.1, cond_e (fun hcc => ?_) fun hcc => ?_⟩
      · obtain ⟨q1, q2, q3⟩ := hall g (List.mem_of_getElem? hg) g' (List.mem_of_getElem? hg') hcc
        refine ⟨by omega, by omega, p, hp, _, fun x hx => hx.2.1, by omega, by omega, p', hp', _, fun x hx => hx.2.2.2.2.1, cond_f' (by simp [q1]) ?_⟩
        refine ⟨by omega, by omega, p', hp', _, _, _, fun x hx => hx.2.2.2.2.2, by omega, by omega, p, hp, _, _, _, fun x hx => hx.2.2.1, cond_d (fun hbad => by omega) fun _ => ?_⟩
        refine ⟨by omega, by omega, p', hp', _, _, _, fun x hx => hx.2.2.2.2.2, by omega, by omega, p, hp, _, _, _, fun x hx => hx.2.2.1, by omega, by omega, by omega, by omega, by omega, by omega, p, hp, _, _, _, fun x hx => hx.2.2.1, ?_⟩
        simp only [Int.toNat_zero, Nat.sub_zero, add_zero, Option.map_id', id_eq, ite_self]
        have hT := (hm'.keep hbd).take (n := m.len) (c := m'.cap) (by omega)
        refine (ints_spec hT (hm.keep hbd)).mono ?_
        rintro _ wc ⟨rfl, hsc⟩
        refine ⟨_, rfl, cond_f' (by rw [hml, q3]; simp) ?_⟩
        rw [inc (by omega)]
        exact ⟨⟨trivial, trivial, trivial, trivial, trivial, trivial, trivial, k + 1, rfl, by omega, hbd.trans (hsc.below _)⟩, by (try dsimp only); omega⟩
      · rw [inc (by omega)]
        exact ⟨⟨trivial, trivial, trivial, trivial, trivial, trivial, trivial, k + 1, rfl, by omega, hbd⟩, by (try dsimp only); omega⟩
    · rw [inc (by omega)]
      exact ⟨⟨rfl, rfl, rfl, rfl, rfl, rfl, i + 1, rfl, by omega, hbb⟩, by (try dsimp only); omega⟩
  · exact grow_c1 (hb.next hba (Nat.le_refl _)) (hba.here m0) (hba.here m2) (hba.here w0) (hba.here w1) (hba.here w2)

/-- what comes of Put and Say -/
def Gr (c b : Int) (gs ns : List Log) (fresh : Bool) (e n : Int) : Prop :=
  (e ≠ 0 ∧ ns = [] ∧ fresh = false) ∨ (e = 0 ∧ ns = gs ∧ fresh = false) ∨
  (e = 0 ∧ fresh = true ∧ ns = addR c b gs ∧ n = tot (lkp c gs) + 1 ∧ okClient c = true ∧ logsOk (-1) (addR c b gs) = true)

theorem put_gr {c n b : Int} {gs : List Log} (hok : logsOk (-1) gs = true) : Gr c b gs (putR c n b gs).1 (putR c n b gs).2.1 (putR c n b gs).2.2 n := by
  unfold putR
  split
  · rename_i h
    split
    · exact .inr (.inl ⟨rfl, rfl, rfl⟩)
    · split
      · exact .inl ⟨by decide, rfl, rfl⟩
      · split
        · exact .inl ⟨by decide, rfl, rfl⟩
        · have := h.2.1
          simp only [okClient, Bool.and_eq_true, decide_eq_true_eq] at this
          exact .inr (.inr ⟨rfl, rfl, rfl, by omega, h.2.1, addR_ok h.2.1 h.2.2.1 h.1 (by omega) (by omega)⟩)
  · exact .inl ⟨by decide, rfl, rfl⟩
theorem say_gr {c b : Int} {gs : List Log} (hok : logsOk (-1) gs = true) : Gr c b gs (sayR c b gs).1 ((sayR c b gs).2.2 == 0) (sayR c b gs).2.2 (sayR c b gs).2.1 := by
  unfold sayR
  split
  · rename_i h
    split
    · exact .inl ⟨by decide, rfl, rfl⟩
    · have := h.2.1
      simp only [okClient, Bool.and_eq_true, decide_eq_true_eq] at this
      exact .inr (.inr ⟨rfl, rfl, rfl, rfl, h.2.1, addR_ok h.2.1 h.2.2 h.1 (by omega) (by omega)⟩)
  · exact .inl ⟨by decide, rfl, rfl⟩

theorem grow_c8 {w w0 : World} {fresh : Bool} {e : Int} (hb : Below W.heap.size W w) (hl : Logs w l gs) (hok : logsOk (-1) gs = true) (hB : W.heap.size ≤ w0.heap.size) (hN : New w0.heap.size w nx ns) (hG : Gr c b gs ns fresh e n)
    (m0 : w.cell? m4 = some (.int .i64 c)) (m2 : w.cell? (m4.add 2) = some (.int .i64 b)) : trystlaw25_LogsGrow.c8 (RT0 W) l m4 nx fresh e n w := by
  have hfit := ok_fit hok
  have hnfit : Fit ns := by
    rcases hG with ⟨_, rfl, _⟩ | ⟨_, rfl, _⟩ | ⟨_, _, rfl, _, _, h⟩
    · exact ⟨by simp, by simp⟩
    · exact hfit
    · exact ok_fit h
  have hnl := (hN.logs hnfit).len
  unfold trystlaw25_LogsGrow.c8
  refine cond_n (fun hne => ?_) fun he => ?_
  · rcases hG with ⟨_, rfl, rfl⟩ | ⟨h, _⟩ | ⟨h, _⟩
    · refine cond_t (by rw [hnl]; rfl) (cond_t rfl ((wakes_spec w).mono ?_))
      rintro _ w1 ⟨rfl, hb1⟩
      exact ⟨_, rfl, rfl, hb.next hb1 (Nat.le_refl _)⟩
    · exact absurd h hne
    · exact absurd h hne
  have hnok : logsOk (-1) ns = true := by
    rcases hG with ⟨h, _⟩ | ⟨_, rfl, _⟩ | ⟨_, _, rfl, _, _, h⟩
    · exact absurd he h
    · exact hok
    · exact h
  refine (check_spec (hN.logs hnfit)).mono ?_
  rintro _ w1 ⟨rfl, hb1⟩
  rw [if_pos hnok]
  have hl1 := Els.keep LogC.stab hl hb1
  have hN1 := hN.keep hb1
  refine ⟨_, rfl, cond_f' rfl ((have_spec hl1).mono ?_)⟩
  rintro _ w2 ⟨x, rfl, hox, hb2⟩
  refine ⟨_, _, _, rfl, (have_spec ((hN1.keep hb2).logs hnfit)).mono ?_⟩
  rintro _ w3 ⟨y, rfl, hoy, hb3⟩
  have h8 := haveL_length gs
  have h8' := haveL_length ns
  have hX := (hox.ints (by omega)).keep hb3
  have hY := hoy.ints (by omega)
  have hXl := hX.len
  have hYl := hY.len
  refine ⟨_, _, _, rfl, cond_f' (by rw [hXl, h8]; rfl) (cond_f' (by rw [hYl, h8']; rfl) ?_)⟩
  have hb13 := (hb1.next hb2 (Nat.le_refl _)).next hb3 (Nat.le_refl _)
  have hb03 := hb.next hb13 (Nat.le_refl _)
  have hl3 := Els.keep LogC.stab hl hb13
  have hN3 := hN.keep hb13
  have m03 := hb13.here m0
  have m23 := hb13.here m2
  have hXe : haveL gs = haves gs := by unfold haveL; rw [if_pos hok]
  have hYe : haveL ns = haves ns := by unfold haveL; rw [if_pos hnok]
  have hr8 := fun d : Nat => lkp_rng hok (d : Int)
  unfold trystlaw25_LogsGrow.c7 trystlaw25_LogsGrow.l5
  refine ⟨fun t w' => w' = w3 ∧ ∃ d : Nat, t = d ∧ d ≤ 8, fun t _ => 8 - t.toNat, ⟨rfl, 0, rfl, by omega⟩, ?_⟩
  rintro _ w4 ⟨hw, d, rfl, hd⟩
  subst hw
  unfold trystlaw25_LogsGrow.b5
  refine cond_d (fun hlt => ?_) fun hge => ?_
  · obtain ⟨px, hpx, hcx⟩ := hX.get (i := (d : Int)) (by omega) (by omega)
    obtain ⟨py, hpy, hcy⟩ := hY.get (i := (d : Int)) (by omega) (by omega)
    rw [Int.toNat_natCast, hXe, haves_get _ (by omega), Option.getD_some] at hcx
    rw [Int.toNat_natCast, hYe] at hcy
    have htd : 0 ≤ tot (lkp (d : Int) gs) ∧ tot (lkp (d : Int) gs) ≤ 1073741856 := by have := hr8 d; unfold tot; omega
    have hc6 : ∀ want : Int, (haves ns)[d]?.getD 0 = want → trystlaw25_LogsGrow.c6 (RT0 W) (fun l0' m4' next7' fresh8' n10' x11' y12' c13' w' => (l0' = l ∧ m4' = m4 ∧ next7' = nx ∧ fresh8' = fresh ∧ n10' = n ∧ x11' = ⟨x.a, x.len, x.cap⟩ ∧ y12' = ⟨y.a, y.len, y.cap⟩ ∧ (w' = w4 ∧ ∃ d : Nat, c13' = d ∧ d ≤ 8)) ∧ 8 - c13'.toNat < 8 - (d : Int).toNat) l m4 nx fresh n ⟨x.a, x.len, x.cap⟩ ⟨y.a, y.len, y.cap⟩ (d : Int) want w4 := by
      intro want hw
      unfold trystlaw25_LogsGrow.c6
      refine ⟨by omega, by show (d : Int) < (y.len : Int); omega, py, hpy, _, by rw [Int.toNat_natCast]; exact hcy, cond_f' (by simp [hw]) ?_⟩
      rw [inc (by omega)]
      exact ⟨⟨rfl, rfl, rfl, rfl, rfl, rfl, rfl, rfl, d + 1, rfl, by omega⟩, by (try dsimp only); omega⟩
    refine ⟨by omega, by show (d : Int) < (x.len : Int); omega, px, hpx, _, by rw [Int.toNat_natCast]; exact hcx, ?_⟩
    rcases hG with ⟨h, _⟩ | ⟨_, rfl, rfl⟩ | ⟨_, rfl, rfl, hn, hcl, hok2⟩
    · exact absurd he h
    · refine cond_f' rfl (hc6 _ ?_)
      rw [haves_get _ (by omega)]; rfl
    · simp only [okClient, Bool.and_eq_true, decide_eq_true_eq] at hcl
      refine cond_t rfl ⟨_, m03, cond_e (fun hdc => ?_) fun hdc => ?_⟩
      · rw [w64 (by omega)]
        refine hc6 _ ?_
        rw [grow_have hok (by omega) (by omega), if_pos hdc]; rfl
      · refine hc6 _ ?_
        rw [grow_have hok (by omega) (by omega), if_neg hdc]; simp
  · unfold trystlaw25_LogsGrow.c4
    rcases hG with ⟨h, _⟩ | ⟨_, rfl, rfl⟩ | ⟨_, rfl, rfl, hn, hcl, hok2⟩
    · exact absurd he h
    · refine cond_t rfl ((klogs_spec (hN3.logs hnfit) hl3).mono ?_)
      rintro _ w5 ⟨⟨t, rfl, ht⟩, hb5⟩
      refine ⟨_, rfl, cond_t (ht.2 rfl) ((wakes_spec w5).mono ?_)⟩
      rintro _ w6 ⟨rfl, hb6⟩
      exact ⟨_, rfl, rfl, (hb03.next hb5 (Nat.le_refl _)).next hb6 (Nat.le_refl _)⟩
    · have hcl' := hcl
      simp only [okClient, Bool.and_eq_true, decide_eq_true_eq] at hcl'
      have hrc := lkp_rng hok c
      have htc : 0 ≤ tot (lkp c gs) ∧ tot (lkp c gs) ≤ 1073741856 := by unfold tot; omega
      obtain ⟨py, hpy, _⟩ := hY.get (i := c) (by omega) (by omega)
      obtain ⟨hwr, hoy2, hyB⟩ := hoy.set hpy (j := c.toNat) (by omega) (n - 1)
      refine cond_f' rfl ⟨_, m03, by omega, by show c < (y.len : Int); omega, py, hpy, hwr, ?_⟩
      have en : IntKind.i64.wrap (n - 1) = n - 1 := by rw [w64 (by omega)]
      rw [en]
      have hbset : Below w2.heap.size w2 (w4.setCell (py.add c.toNat) (.int .i64 (n - 1))) := hb3.setCell (by rw [add_block]; exact hyB) _
      generalize w4.setCell (py.add c.toNat) (.int .i64 (n - 1)) = w5 at hoy2 hbset ⊢
      have hb15 := (hb1.next hb2 (Nat.le_refl _)).next hbset (Nat.le_refl _)
      have hN5 := hN.keep hb15
      have hY5 := hoy2.ints (by rw [List.length_set]; omega)
      refine (want_spec (hN5.logs hnfit) hY5).mono ?_
      rintro _ w6 ⟨rfl, hb6⟩
      have hnn : n - 1 = tot (lkp c gs) := by omega
      rw [hnn, grow_want hok hcl hok2, ← hn]
      refine ⟨_, _, _, _, rfl, fun j hj => wr_new _ _ _ hj, ?_⟩
      rw [box_set3]
      have hb7 := below_alloc w6 (.cells #[.int .i64 c, .int .i64 n, .int .i64 b] 32)
      have hb17 := (hb15.next hb6 (Nat.le_refl _)).next hb7 (Nat.le_refl _)
      exact grow_l2 (hb.next hb17 (Nat.le_refl _)) (Els.keep LogC.stab hl hb17) ((hN.keep hb17).logsK hnfit) (fun g hg g' hg' e => grow_same hok (by omega) hok2 hg hg' e) (hb17.here m0) (hb17.here m2) (cell_new0 _ _ _) (cell_new _ _ _ _) (cell_new _ _ _ _)
end

theorem grow_law_spec {w : World} {l : Sl} {gs : List Log} (h : Logs w l gs) (c n b : Int) (say : Bool) (hn63 : -9223372036854775808 ≤ n ∧ n ≤ 9223372036854775807) :
    CallsV Try.prog n_trystlaw25_LogsGrow #[.slice l.a l.len l.cap, .agg #[.int .i64 c, .int .i64 n, .int .i64 b], .bool say] w (RT0 w) := by
  refine trystlaw25_LogsGrow.lift ?_
  unfold trystlaw25_LogsGrow.main
  intro w0
  have hb0 : Below w.heap.size w w0 := below_alloc _ _
  have a0 : w0.cell? (newA w) = some (.int .i64 c) := cell_new0 _ _ _
  have a1 : w0.cell? ((newA w).add 1) = some (.int .i64 n) := cell_new _ _ _ _
  have a2 : w0.cell? ((newA w).add 2) = some (.int .i64 b) := cell_new _ _ _ _
  clear_value w0
  have h0 := Els.keep LogC.stab h hb0
  refine (heavy_spec h0).mono ?_
  rintro _ _ ⟨rfl, rfl⟩
  refine ⟨_, rfl, cond_c (fun _ => ⟨rfl, hb0⟩) fun hvy => ?_⟩
  refine (check_spec h0).mono ?_
  rintro _ w1 ⟨rfl, hb1⟩
  have hb01 := hb0.next hb1 (Nat.le_refl _)
  refine ⟨_, rfl, cond_n (fun _ => ⟨rfl, hb01⟩) fun he => ?_⟩
  have hok : logsOk (-1) gs = true := Classical.byContradiction fun hn => ok01.2 hn he
  have h1 := Els.keep LogC.stab h0 hb1
  unfold trystlaw25_LogsGrow.c9
  refine ⟨_, hb1.here a0, _, hb1.here a1, _, hb1.here a2, (put_spec h1 c n b hn63).mono ?_⟩
  rintro _ w2 ⟨s2, rfl, hN2, hb2⟩
  have hb12 := hb1.next hb2 (Nat.le_refl _)
  have hb02 := hb0.next hb12 (Nat.le_refl _)
  have h2 := Els.keep LogC.stab h0 hb12
  refine ⟨_, _, _, _, _, rfl, _, hb12.here a1, cond_c (fun _ => ?_) fun _ => ?_⟩
  · refine ⟨_, hb12.here a0, _, hb12.here a2, (say_spec h2 c b).mono ?_⟩
    rintro _ w3 ⟨s3, rfl, hN3, hb3⟩
    have hb13 := hb12.next hb3 (Nat.le_refl _)
    exact ⟨_, _, _, _, _, rfl, grow_c8 (hb0.next hb13 (Nat.le_refl _)) (Els.keep LogC.stab h0 hb13) hok hb02.size hN3 (say_gr hok) (hb13.here a0) (hb13.here a2)⟩
  · exact grow_c8 hb02 h2 hok hb01.size hN2 (put_gr hok) (hb12.here a0) (hb12.here a2)

end Go.Proofs.Ytcegohgmagppbaa
