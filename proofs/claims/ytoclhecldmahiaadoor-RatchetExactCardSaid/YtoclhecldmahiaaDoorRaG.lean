/-
  The page's ratchets: contracts.
-/
import Derived.Test.YtoclhecldmahiaaDoorRaD
import Derived.Test.YtoclhecldmahiaaDoorOnF
import Derived.Test.YtoclhecldmahiaaDoorR3Fns
set_option linter.unusedVariables false
set_option linter.unusedVariables false
set_option linter.unusedSimpArgs false
namespace Go.Proofs.YtoclhecldmahiaaDoor
open Go.Lf Go.RowKit

/-! which key is told, and which stay -/

def keyOf (ks : List Ky) (n : Int) (acc : Int) : Int := ks.foldl (fun a g => if g.1 = n then g.2 else a) acc
def stayK (ks : List Ky) (n : Int) : List Ky := ks.filter fun g => g.1 != n
theorem keyOf_app (ks : List Ky) (g : Ky) (n acc : Int) : keyOf (ks ++ [g]) n acc = if g.1 = n then g.2 else keyOf ks n acc := by unfold keyOf; rw [List.foldl_append]; rfl
theorem stayK_app (ks : List Ky) (g : Ky) (n : Int) : stayK (ks ++ [g]) n = if g.1 = n then stayK ks n else stayK ks n ++ [g] := by
  unfold stayK
  rw [List.filter_append]
  by_cases h : g.1 = n
  · rw [if_pos h, List.filter_cons_of_neg (by simp [h])]; simp
  · rw [if_neg h, List.filter_cons_of_pos (by simpa using h)]; simp
theorem stayK_len (ks : List Ky) (n : Int) : (stayK ks n).length ≤ ks.length := List.length_filter_le _ _
theorem keyOf_none {n : Int} : ∀ {ks : List Ky} {acc : Int}, (∀ g ∈ ks, g.1 ≠ n) → keyOf ks n acc = acc
  | [], _, _ => rfl
  | g :: r, acc, h => by
    show keyOf r n (if g.1 = n then g.2 else acc) = acc
    rw [if_neg (h g (by simp)), keyOf_none fun x hx => h x (by simp [hx])]
theorem stayK_none {ks : List Ky} {n : Int} (h : ∀ g ∈ ks, g.1 ≠ n) : stayK ks n = ks := List.filter_eq_self.2 fun g hg => by simpa using h g hg

theorem ksOk_sorted {nx : Int} : ∀ {ks : List Ky} {was : Int}, ksOk nx was ks → ks.Pairwise (fun a b => a.1 < b.1) ∧ ∀ g ∈ ks, was < g.1 ∧ g.1 < nx
  | [], _, _ => ⟨List.Pairwise.nil, by simp⟩
  | k :: r, was, h => by
    obtain ⟨h1, h2, h3⟩ := h
    obtain ⟨i1, i2⟩ := ksOk_sorted h3
    refine ⟨List.pairwise_cons.2 ⟨fun g hg => (i2 g hg).1, i1⟩, fun g hg => ?_⟩
    rcases List.mem_cons.1 hg with rfl | hg
    · exact ⟨h1, h2⟩
    · have := i2 g hg; omega

theorem sorted_at {n : Int} : ∀ {ks : List Ky} {i : Nat} {g : Ky} {acc : Int}, ks.Pairwise (fun a b => a.1 < b.1) → ks[i]? = some g → g.1 = n → keyOf ks n acc = g.2 ∧ stayK ks n = ks.eraseIdx i
  | [], _, _, _, _, h, _ => by simp at h
  | k :: r, 0, g, acc, hs, h, hn => by
    simp at h
    subst h
    have hp := List.pairwise_cons.1 hs
    have hne : ∀ x ∈ r, x.1 ≠ n := fun x hx => by have := hp.1 x hx; omega
    refine ⟨?_, ?_⟩
    · show keyOf r n (if k.1 = n then k.2 else acc) = k.2
      rw [if_pos hn, keyOf_none hne]
    · show List.filter _ (k :: r) = r
      rw [List.filter_cons_of_neg (by simp [hn])]
      exact stayK_none hne
  | k :: r, i + 1, g, acc, hs, h, hn => by
    have h : r[i]? = some g := by simpa using h
    have hp := List.pairwise_cons.1 hs
    have hk := hp.1 g (List.mem_of_getElem? h)
    obtain ⟨i1, i2⟩ := sorted_at (acc := acc) hp.2 h hn
    refine ⟨?_, ?_⟩
    · show keyOf r n (if k.1 = n then k.2 else acc) = g.2
      rw [if_neg (by omega)]; exact i1
    · show List.filter _ (k :: r) = k :: r.eraseIdx i
      rw [List.filter_cons_of_pos (by simp; omega), ← i2]; rfl

section
variable {W w w' : World} {L R : List Asn} {p : Addr} {T : List Tm}

theorem At.put (h : At W w L) (k : Nat) {q : Addr} {cs : List Value} (hk : L[k]? = some (boxA q cs)) {j : Nat} (hj : j < cs.length) (u : Value) : Wr w (q.add j) ∧ At W (w.setCell (q.add j) u) (L.set k (boxA q (cs.set j u))) :=
  ⟨h.s.wr k hk hj, h.go2 (h.s.set k hk hj u)⟩
theorem At.put0 (h : At W w L) (k : Nat) {q : Addr} {cs : List Value} (hk : L[k]? = some (boxA q cs)) (hj : 0 < cs.length) (u : Value) : Wr w q ∧ At W (w.setCell q u) (L.set k (boxA q (cs.set 0 u))) :=
  ⟨h.s.wr0 k hk hj, h.go2 (h.s.set0 k hk hj u)⟩

theorem twin_kys (h : At W w R) {s : Sl} {ks : List Ky} (hr : Kys w s ks) (hl : ks.length ≤ 1000000) :
    CallsV Tryd.prog n_trystkeep_TwinKeys #[.slice s.a s.len s.cap] w fun v w' => ∃ s' : Sl, v = .slice s'.a s'.len s'.cap ∧ At W w' (kyA s' ks :: R) := by
  refine trystkeep_TwinKeys.lift ?_
  unfold trystkeep_TwinKeys.main
  obtain ⟨i, hi, hz, hsz, hby⟩ := t113
  obtain ⟨s', w', hrun, hl', hown, hb⟩ := twin_go (t := 102) (ty := 102) Tryd.underlying102 hi hz hsz hby rfl (by omega) (w := w) (s := s) (m := ks.length) (news := flat kyC ks) hr.len (flat_length kyC_len ks) (fun a ha => hr.cells ha) (fun hn => by rw [hr.empty hn]; rfl) (flat_kys_one ks) (by unfold maxLen; omega) (by omega)
  exact ⟨_, _, _, _, hrun, s', rfl, h.go (h.s.row hown hb) (hb.mono h.s.le)⟩

theorem twin_rt (h : At W w R) (c nx : Int) {s : Sl} {ks : List Ky} (hl : ks.length ≤ 1000000) (hK : KeptK W R s ks) :
    CallsV Tryd.prog n_trystkeep_TwinRatchet #[rtV c nx s] w fun v w' => ∃ s' : Sl, v = rtV c nx s' ∧ At W w' (kyA s' ks :: R) := by
  refine trystkeep_TwinRatchet.lift (r0_2 := s) ?_
  unfold trystkeep_TwinRatchet.main
  intro w1
  have h1 : At W w1 (boxA (newA w) (rtC c nx s) :: R) := h.box 104 (rtC c nx s)
  clear_value w1
  generalize newA w = rb at h1 ⊢
  intro w2
  have h2 : At W w2 (boxA (newA w1) [.int .i64 0, .int .i64 0, .slice none 0 0] :: boxA rb (rtC c nx s) :: R) := h1.box 104 [.int .i64 0, .int .i64 0, .slice none 0 0]
  clear_value w2
  generalize newA w1 = tb at h2 ⊢
  refine ⟨_, _, _, h2.s.cell 1 rfl 2 rfl, (twin_kys h2 (hK [_, _] _ h2) hl).mono ?_⟩
  rintro _ w3 ⟨s3, rfl, h3⟩
  obtain ⟨k1, k2⟩ := h3.put 2 rfl (j := 2) (by simp) (.slice s3.a s3.len s3.cap)
  refine ⟨_, _, _, rfl, k1, ?_⟩
  intro w4
  have h4 : At W w4 (kyA s3 ks :: boxA tb [.int .i64 0, .int .i64 0, .slice none 0 0] :: boxA rb (rtC c nx s3) :: R) := k2
  clear_value w4
  obtain ⟨m1, m2⟩ := h4.set3 1 rfl (.int .i64 c) (.int .i64 nx) (.slice s3.a s3.len s3.cap)
  refine ⟨_, h4.s.cell0 2 rfl rfl, _, h4.s.cell 2 rfl 1 rfl, _, _, _, h4.s.cell 2 rfl 2 rfl, m1, ?_⟩
  intro w5
  have h5 : At W w5 (kyA s3 ks :: boxA tb (rtC c nx s3) :: boxA rb (rtC c nx s3) :: R) := m2
  exact ⟨_, h5.s.cell0 1 rfl rfl, _, h5.s.cell 1 rfl 1 rfl, _, _, _, h5.s.cell 1 rfl 2 rfl, s3, rfl, (h5.front 2 rfl).drop.swap.drop⟩

theorem heavy_at (h : At W w R) (c nx : Int) (s : Sl) : CallsV Tryd.prog n_trystlaw19_heavy #[rtV c nx s] w fun v w' => v = .bool (decide (((s.len : Nat) : Int) > 100)) ∧ At W w' R := by
  refine trystlaw19_heavy.lift (r0_2 := s) ?_
  unfold trystlaw19_heavy.main
  intro w1
  have h1 : At W w1 (boxA (newA w) (rtC c nx s) :: R) := h.box 104 (rtC c nx s)
  exact ⟨_, _, _, h1.s.cell 0 rfl 2 rfl, rfl, h1.drop⟩

/-- is it right, by the page -/
theorem rright_at (h : At W w R) (c nx : Int) {s : Sl} {ks : List Ky} (hl : ks.length ≤ 1000000) (hK : KeptK W R s ks) :
    CallsV Tryd.prog n_trystref15_Ratchet #[rtV c nx s] w fun v w' => v = .bool (decide (RtOk nx ks)) ∧ At W w' R := by
  refine trystref15_Ratchet.lift (r0_2 := s) ?_
  unfold trystref15_Ratchet.main
  have hlen := (hK [] w h).len
  have bad : ¬ RtOk nx ks → (Value.bool false) = .bool (decide (RtOk nx ks)) := fun hn => by rw [decide_eq_false hn]
  intro w1
  have h1 : At W w1 (boxA (newA w) (rtC c nx s) :: R) := h.box 104 (rtC c nx s)
  clear_value w1
  generalize newA w = rb at h1 ⊢
  refine ⟨_, h1.s.cell 0 rfl 1 rfl, cond_d (fun hn => ⟨bad (fun h => by unfold RtOk at h; omega), h1.drop⟩) fun hn => ⟨_, h1.s.cell 0 rfl 1 rfl, cond_d (fun hm => ⟨bad (fun h => by unfold RtOk at h; omega), h1.drop⟩) fun hm => ⟨_, _, _, h1.s.cell 0 rfl 2 rfl, cond_d (fun hk => ⟨bad (fun h => by unfold RtOk at h; omega), h1.drop⟩) fun hk => ?_⟩⟩⟩
  unfold trystref15_Ratchet.c2 trystref15_Ratchet.l1
  have hiff : RtOk nx ks ↔ ksOk nx (-1) ks := ⟨fun h => h.2.2.2, fun h => ⟨by omega, by omega, by omega, h⟩⟩
  refine ⟨fun t w' => ∃ k : Nat, t = k ∧ k ≤ ks.length ∧ (ksOk nx (-1) ks ↔ ksOk nx (if h : 0 < k ∧ k ≤ ks.length then ks[k - 1].1 else -1) (ks.drop k)) ∧ At W w' (boxA rb (rtC c nx s) :: R), fun t _ => ks.length - t.toNat, ⟨0, rfl, by omega, Iff.rfl, h1⟩, ?_⟩
  rintro _ w2 ⟨k, rfl, hk', hi, h2⟩
  unfold trystref15_Ratchet.b1
  refine ⟨_, _, _, h2.s.cell 0 rfl 2 rfl, cond_d (p := ((k : Nat) : Int) < ((s.len : Nat) : Int)) (fun hlt => ?_) fun hge => ?_⟩
  · have hkl : k < ks.length := by omega
    obtain ⟨q, hq, c1, c2⟩ := (hK [_] w2 h2).cell k ks[k] (List.getElem?_eq_getElem hkl)
    rw [List.drop_eq_getElem_cons hkl] at hi
    unfold ksOk at hi
    have hi : ksOk nx (-1) ks ↔ ((if h : 0 < k ∧ k ≤ ks.length then ks[k - 1].1 else -1) < ks[k].1 ∧ ks[k].1 < nx ∧ ksOk nx ks[k].1 (ks.drop (k + 1))) := by
      rw [← show ksOk nx (-1) ks ↔ _ from Iff.rfl]
      cases ks with
      | nil => exact absurd hkl (by simp)
      | cons a r => exact hi
    have h2d := h2.drew
    have nxt : ∀ x : Int, x = ((k + 1 : Nat) : Int) → ks[k].1 < nx → (if h : 0 < k ∧ k ≤ ks.length then ks[k - 1].1 else -1) < ks[k].1 → (rb = rb ∧ ∃ k : Nat, x = k ∧ k ≤ ks.length ∧ (ksOk nx (-1) ks ↔ ksOk nx (if h : 0 < k ∧ k ≤ ks.length then ks[k - 1].1 else -1) (ks.drop k)) ∧ At W w2.drew (boxA rb (rtC c nx s) :: R)) ∧ ks.length - x.toNat < ks.length - (k : Int).toNat := by
      rintro _ rfl hlt2 hlt3
      refine ⟨⟨rfl, k + 1, rfl, by omega, ?_, h2d⟩, by omega⟩
      rw [hi, dif_pos (show 0 < k + 1 ∧ k + 1 ≤ ks.length by omega)]
      exact ⟨fun h => h.2.2, fun h => ⟨hlt3, hlt2, h⟩⟩
    refine ⟨_, _, _, h2.s.cell 0 rfl 2 rfl, by omega, by omega, q, hq, _, by rw [Int.toNat_natCast]; exact c1, cond_d (fun hneg => ?_) fun hneg => ⟨_, _, _, h2.s.cell 0 rfl 2 rfl, by omega, by omega, q, hq, _, by rw [Int.toNat_natCast]; exact c1, _, h2.s.cell 0 rfl 1 rfl, cond_d (fun hge => ?_) fun hge => cond_d (fun hpos => ?_) fun hzero => ?_⟩⟩
    · refine ⟨bad fun h => ?_, h2d.drop⟩
      have := (ksOk_sorted (hiff.1 h)).2 ks[k] (List.getElem_mem hkl)
      omega
    · refine ⟨bad fun h => ?_, h2d.drop⟩
      have := (ksOk_sorted (hiff.1 h)).2 ks[k] (List.getElem_mem hkl)
      omega
    · have hk0 : 0 < k := by omega
      have e1 : IntKind.i64.wrap ((k : Int) - 1) = ((k - 1 : Nat) : Int) := by rw [w64 (by omega)]; omega
      obtain ⟨q', hq', c1', _⟩ := (hK [_] w2 h2).cell (k - 1) ks[k - 1] (List.getElem?_eq_getElem (by omega))
      rw [hq] at hq'
      obtain rfl := Option.some.inj hq'
      rw [e1]
      refine ⟨_, _, _, h2.s.cell 0 rfl 2 rfl, by omega, by omega, q, hq, _, by rw [Int.toNat_natCast]; exact c1, _, _, _, h2.s.cell 0 rfl 2 rfl, by omega, by omega, q, hq, _, by rw [Int.toNat_natCast, ixOff_eq]; exact c1', ?_⟩
      refine cond_d (fun hle => ?_) fun hgt => ?_
      · refine ⟨bad fun h => ?_, h2d.drop⟩
        have := hi.1 (hiff.1 h)
        rw [dif_pos (show 0 < k ∧ k ≤ ks.length by omega)] at this
        omega
      · exact nxt _ (inc (by omega)) (by omega) (by rw [dif_pos (show 0 < k ∧ k ≤ ks.length by omega)]; omega)
    · exact nxt _ (inc (by omega)) (by omega) (by rw [dif_neg (by omega)]; omega)
  · rw [List.drop_eq_nil_of_le (by omega)] at hi
    exact ⟨by rw [decide_eq_true (hiff.2 (hi.2 trivial))], h2.drop⟩

theorem rnodes_at (h : At W w (pgT p T :: R)) (c nx : Int) {s : Sl} {ks : List Ky} (hl : ks.length ≤ 1000000) (hK : KeptK W R s ks) :
    CallsV Tryd.prog n_trystref15_RatchetNodes #[.pointer (some p), rtV c nx s] w fun v w' => v = .bool (decide (inT T c ∧ ∀ k ∈ ks, inT T k.2)) ∧ At W w' (pgT p T :: R) := by
  refine trystref15_RatchetNodes.lift (r1_2 := s) ?_
  unfold trystref15_RatchetNodes.main
  have hlen := (hK [_] w h).len
  intro w1
  have h1 : At W w1 (boxA (newA w) (rtC c nx s) :: pgT p T :: R) := h.box 104 (rtC c nx s)
  clear_value w1
  generalize newA w = rb at h1 ⊢
  unfold trystref15_RatchetNodes.l2
  refine ⟨fun t w' => ∃ k : Nat, t = k ∧ k ≤ ks.length ∧ (∀ g ∈ ks.take k, inT T g.2) ∧ At W w' (pgT p T :: boxA rb (rtC c nx s) :: R), fun t _ => ks.length - t.toNat, ⟨0, rfl, by omega, by simp, h1.swap⟩, ?_⟩
  clear h1
  rintro _ w2 ⟨k, rfl, hk, hall, h2⟩
  unfold trystref15_RatchetNodes.b2
  refine ⟨_, _, _, h2.s.cell 1 rfl 2 rfl, cond_d (p := ((k : Nat) : Int) < ((s.len : Nat) : Int)) (fun hlt => ?_) fun hge => ?_⟩
  · have hkl : k < ks.length := by omega
    obtain ⟨q, hq, c1, c2⟩ := (hK [_, _] w2 h2).cell k ks[k] (List.getElem?_eq_getElem hkl)
    refine ⟨_, _, _, h2.s.cell 1 rfl 2 rfl, by omega, by omega, q, hq, _, by rw [Int.toNat_natCast]; exact c2, ?_⟩
    intro w3
    refine (rhas_new [ks[k].2] h2 (by simp)).mono ?_
    rintro _ w4 ⟨rfl, h4⟩
    refine ⟨_, rfl, cond_not (fun hf => ?_) fun ht => ?_⟩
    · refine ⟨?_, h4.swap.drop⟩
      rw [decide_eq_false]
      intro h
      exact of_decide_eq_false hf (by simpa using h.2 _ (List.getElem_mem hkl))
    · have ht := of_decide_eq_true ht
      dsimp only
      rw [inc (by omega)]
      refine ⟨⟨rfl, rfl, k + 1, rfl, by omega, fun g hg => ?_, h4⟩, by omega⟩
      rw [List.take_succ_eq_append_getElem hkl, List.mem_append, List.mem_singleton] at hg
      rcases hg with hg | rfl
      · exact hall g hg
      · simpa using ht
  · rw [List.take_of_length_le (by omega)] at hall
    unfold trystref15_RatchetNodes.c1
    refine ⟨_, h2.s.cell0 1 rfl rfl, ?_⟩
    intro w3
    refine (rhas_new [c] h2 (by simp)).mono ?_
    rintro _ w4 ⟨rfl, h4⟩
    refine ⟨_, rfl, ?_, h4.swap.drop⟩
    congr 1
    rw [decide_eq_decide]
    simp only [List.mem_singleton, forall_eq]
    exact ⟨fun h => ⟨h, hall⟩, fun h => h.1⟩

/-- what is told of two ratchets -/
theorem ksame_at (h : At W w R) {s t : Sl} {ks ls : List Ky} (hl : ks.length ≤ 1000000) (hK : KeptK W R s ks) (hL : KeptK W R t ls) :
    CallsV Tryd.prog n_trystkeep_Keys #[.slice s.a s.len s.cap, .slice t.a t.len t.cap] w fun v w' => (ks = ls → v = .bool true) ∧ (∃ b : Bool, v = .bool b) ∧ At W w' R := by
  refine trystkeep_Keys.lift ?_
  unfold trystkeep_Keys.main
  have h1 := (hK [] w h).len
  have h2 := (hL [] w h).len
  refine cond_n (fun hne => ?_) fun heq => ?_
  · exact ⟨fun e => by rw [e] at h1; omega, ⟨_, rfl⟩, h⟩
  unfold trystkeep_Keys.l1
  refine ⟨fun t w' => ∃ k : Nat, t = k ∧ k ≤ ks.length ∧ At W w' R, fun t _ => ks.length - t.toNat, ⟨0, rfl, by omega, h⟩, ?_⟩
  clear h
  rintro _ w2 ⟨k, rfl, hk, h⟩
  unfold trystkeep_Keys.b1
  refine cond_d (p := ((k : Nat) : Int) < ((s.len : Nat) : Int)) (fun hlt => ?_) fun hge => ?_
  · obtain ⟨q, hq, c1, c2⟩ := (hK [] w2 h).cell k ks[k] (List.getElem?_eq_getElem (by omega))
    obtain ⟨q', hq', d1, d2⟩ := (hL [] w2 h).cell k ls[k] (List.getElem?_eq_getElem (by omega))
    refine ⟨by omega, by omega, q, hq, _, by rw [Int.toNat_natCast]; exact c1, by omega, by omega, q', hq', _, by rw [Int.toNat_natCast]; exact d1, cond_n (fun hne => ?_) fun heq => ⟨by omega, by omega, q, hq, _, by rw [Int.toNat_natCast]; exact c2, by omega, by omega, q', hq', _, by rw [Int.toNat_natCast]; exact d2, cond_n (fun hne => ?_) fun heq => ?_⟩⟩
    · exact ⟨fun e => by subst e; exact absurd rfl hne, ⟨_, rfl⟩, h.drew⟩
    · exact ⟨fun e => by subst e; exact absurd rfl hne, ⟨_, rfl⟩, h.drew⟩
    · dsimp only
      rw [inc (by omega)]
      exact ⟨⟨rfl, rfl, k + 1, rfl, by omega, h.drew⟩, by omega⟩
  · exact ⟨fun _ => rfl, ⟨_, rfl⟩, h⟩

theorem rts_at (h : At W w R) {c nx d ny : Int} {s t : Sl} {ks ls : List Ky} (hl : ks.length ≤ 1000000) (hK : KeptK W R s ks) (hL : KeptK W R t ls) :
    CallsV Tryd.prog n_trystkeep_Ratchet #[rtV c nx s, rtV d ny t] w fun v w' => (c = d → nx = ny → ks = ls → v = .bool true) ∧ (∃ b : Bool, v = .bool b) ∧ At W w' R := by
  refine trystkeep_Ratchet.lift (a0_2 := s) (b1_2 := t) ?_
  unfold trystkeep_Ratchet.main
  intro w1
  have h1 : At W w1 (boxA (newA w) (rtC c nx s) :: R) := h.box 104 (rtC c nx s)
  clear_value w1
  generalize newA w = rb at h1 ⊢
  intro w2
  have h2 : At W w2 (boxA (newA w1) (rtC d ny t) :: boxA rb (rtC c nx s) :: R) := h1.box 104 (rtC d ny t)
  clear_value w2
  generalize newA w1 = tb at h2 ⊢
  refine ⟨_, h2.s.cell0 1 rfl rfl, _, h2.s.cell0 0 rfl rfl, cond_e (fun e1 => ⟨_, h2.s.cell 1 rfl 1 rfl, _, h2.s.cell 0 rfl 1 rfl, cond_e (fun e2 => ⟨_, _, _, h2.s.cell 1 rfl 2 rfl, _, _, _, h2.s.cell 0 rfl 2 rfl, (ksame_at h2 hl hK.cons.cons hL.cons.cons).mono ?_⟩) fun e2 => ?_⟩) fun e1 => ?_⟩
  · rintro _ w3 ⟨g, ⟨b, rfl⟩, h3⟩
    exact ⟨b, rfl, fun _ _ e => g e, ⟨b, rfl⟩, h3.drop.drop⟩
  · exact ⟨fun _ e => absurd e e2, ⟨_, rfl⟩, h2.drop.drop⟩
  · exact ⟨fun e => absurd e e1, ⟨_, rfl⟩, h2.drop.drop⟩
end

end Go.Proofs.YtoclhecldmahiaaDoor

/-
  The page's Take and Send of a ratchet: contracts.
-/
set_option linter.unusedVariables false
set_option linter.unusedSimpArgs false
namespace Go.Proofs.YtoclhecldmahiaaDoor
open Go.Lf Go.RowKit

section
variable {W w w' : World} {L R : List Asn} {p : Addr} {T : List Tm}

theorem KeptK.on {s : Sl} {ks : List Ky} {X : Asn} (h : ∀ w', ∀ L, At W w' (L ++ X :: R) → Kys w' s ks) : KeptK W (X :: R) s ks := fun L w' hw => h w' L hw
theorem KeptK.drop {s : Sl} {ks : List Ky} {m : Nat} (h : KeptK W R s ks) (hm : m ≤ ks.length) : KeptK W R ⟨if s.cap = m then s.a else s.a.map (·.add (m * 2)), s.len - m, s.cap - m⟩ (ks.drop m) := fun L w' hw => (h L w' hw).drop hm

set_option maxRecDepth 100000 in
theorem rtake_at (h : At W w (pgT p T :: R)) (c nx n : Int) {s : Sl} {ks : List Ky} (hl : ks.length ≤ 1000000) (hT : T.length ≤ 400000) (hn1 : -9223372036854775808 ≤ n) (hK : KeptK W R s ks) :
    CallsV Tryd.prog n_trystref15_Take #[.pointer (some p), rtV c nx s, .int .i64 n] w fun v w' =>
      (takeErr T c nx ks n ≠ 0 → v = .tuple #[.int .i64 0, rtV 0 0 ⟨none, 0, 0⟩, .int .i64 (takeErr T c nx ks n)] ∧ At W w' (pgT p T :: R)) ∧
      (takeErr T c nx ks n = 0 → ∃ (s' : Sl) (X : Asn), v = .tuple #[.int .i64 (takeT T c nx ks n).2.1, rtV (takeT T c nx ks n).2.2.1 (takeT T c nx ks n).2.2.2.1 s', .int .i64 0] ∧ At W w' (X :: pgT p (takeT T c nx ks n).1 :: R) ∧ ∀ R', KeptK W (X :: R') s' (takeT T c nx ks n).2.2.2.2) := by
  refine trystref15_Take.lift (r1_2 := s) ?_
  unfold trystref15_Take.main
  generalize hRR : (fun (v : Value) (w' : World) => (takeErr T c nx ks n ≠ 0 → v = .tuple #[.int .i64 0, rtV 0 0 ⟨none, 0, 0⟩, .int .i64 (takeErr T c nx ks n)] ∧ At W w' (pgT p T :: R)) ∧
      (takeErr T c nx ks n = 0 → ∃ (s' : Sl) (X : Asn), v = .tuple #[.int .i64 (takeT T c nx ks n).2.1, rtV (takeT T c nx ks n).2.2.1 (takeT T c nx ks n).2.2.2.1 s', .int .i64 0] ∧ At W w' (X :: pgT p (takeT T c nx ks n).1 :: R) ∧ ∀ R', KeptK W (X :: R') s' (takeT T c nx ks n).2.2.2.2)) = RR
  intro w1
  have h1 : At W w1 (boxA (newA w) (rtC c nx s) :: pgT p T :: R) := h.box 104 (rtC c nx s)
  clear_value w1
  generalize newA w = rb at h1 ⊢
  intro w2
  have h2 : At W w2 (boxA (newA w1) [.int .i64 0, .int .i64 0, .slice none 0 0] :: boxA rb (rtC c nx s) :: pgT p T :: R) := h1.box 104 [.int .i64 0, .int .i64 0, .slice none 0 0]
  clear_value w2
  generalize newA w1 = tb at h2 ⊢
  have out : ∀ (e : Int) (L : List Asn) (w' : World), At W w' (boxA tb [.int .i64 0, .int .i64 0, .slice none 0 0] :: boxA rb (rtC c nx s) :: pgT p T :: (L ++ R)) → e ≠ 0 → takeErr T c nx ks n = e → (∀ j, j < 3 → Wr w' (tb.add j)) ∧
      (let w4 := setCells tb [.int .i64 0, .int .i64 0, .slice none 0 0] 0 w'; ∃ x_8 : Int, w4.cell? tb = some (.int .i64 x_8) ∧ ∃ x_9 : Int, w4.cell? (tb.add 1) = some (.int .i64 x_9) ∧ ∃ (a_10 : Option Addr) (l_11 c_12 : Nat), w4.cell? (tb.add 2) = some (.slice a_10 l_11 c_12) ∧
        RR (.tuple #[.int .i64 0, .agg #[.int .i64 x_8, .int .i64 x_9, .slice a_10 l_11 c_12], .int .i64 e]) w4) := by
    intro e L w' h' hne he
    obtain ⟨k1, k2⟩ := h'.set3 0 rfl (.int .i64 0) (.int .i64 0) (.slice none 0 0)
    refine ⟨k1, ?_⟩
    have k2 : At W (setCells tb [.int .i64 0, .int .i64 0, .slice none 0 0] 0 w') (boxA tb [.int .i64 0, .int .i64 0, .slice none 0 0] :: boxA rb (rtC c nx s) :: pgT p T :: (L ++ R)) := k2
    refine ⟨_, k2.s.cell0 0 rfl rfl, _, k2.s.cell 0 rfl 1 rfl, _, _, _, k2.s.cell 0 rfl 2 rfl, ?_⟩
    rw [← hRR]
    show (takeErr T c nx ks n ≠ 0 → _) ∧ (takeErr T c nx ks n = 0 → _)
    rw [he]
    refine ⟨fun _ => ⟨rfl, ?_⟩, fun h => absurd h hne⟩
    have k3 := k2.drop.drop
    exact (k3.perm ((List.perm_append_comm (l₁ := pgT p T :: L) (l₂ := R)).trans (by exact List.perm_append_comm.trans (List.Perm.refl _)))).perm (by exact List.Perm.refl _) |> fun hh => (hh.perm (show List.Perm (pgT p T :: L ++ R) (L ++ (pgT p T :: R)) from by
      rw [List.cons_append]; exact List.perm_middle.symm)).dropL
  refine ⟨_, h2.s.cell0 1 rfl rfl, _, h2.s.cell 1 rfl 1 rfl, _, _, _, h2.s.cell 1 rfl 2 rfl, ?_⟩
  refine (rright_at h2 c nx (s := s) hl hK.cons.cons.cons).mono ?_
  rintro _ w3 ⟨rfl, h3⟩
  refine ⟨_, rfl, cond_not (fun hf => ?_) fun ht => ?_⟩
  · have hno := of_decide_eq_false hf
    exact out 1 [] w3 h3 (by decide) (by unfold takeErr rtErr; rw [if_pos hno, if_pos (by decide)])
  have hok := of_decide_eq_true ht
  refine ⟨_, h3.s.cell0 1 rfl rfl, _, h3.s.cell 1 rfl 1 rfl, _, _, _, h3.s.cell 1 rfl 2 rfl, ?_⟩
  refine (rnodes_at (h3.front 2 rfl) c nx (s := s) hl hK.cons.cons).mono ?_
  rintro _ w4 ⟨rfl, h4⟩
  have h4 : At W w4 (boxA tb [.int .i64 0, .int .i64 0, .slice none 0 0] :: boxA rb (rtC c nx s) :: pgT p T :: R) := (h4.front 2 rfl).front 2 rfl
  refine ⟨_, rfl, cond_not (fun hf => ?_) fun ht => ?_⟩
  · have hno := of_decide_eq_false hf
    have e8 : rtErr T c nx ks = 8 := by unfold rtErr; rw [if_neg (fun h => h hok), if_pos hno]
    exact out 8 [] w4 h4 (by decide) (by unfold takeErr; rw [e8, if_pos (by decide)])
  obtain ⟨hc, hks⟩ := of_decide_eq_true ht
  have heq : rtErr T c nx ks = 0 := rtErr0.2 ⟨hok, hc, hks⟩
  refine cond_d (fun hneg => ?_) fun hneg => ?_
  · unfold trystref15_Take.c7
    exact out 1 [] w4 h4 (by decide) (by unfold takeErr; rw [if_neg (fun h => h heq), if_pos (.inl hneg)])
  refine cond_d (fun hbig => ?_) fun hbig => ?_
  · unfold trystref15_Take.c7
    exact out 1 [] w4 h4 (by decide) (by unfold takeErr; rw [if_neg (fun h => h heq), if_pos (.inr hbig)])
  have hnn : ¬ (n < 0 ∨ n ≥ 1073741824) := by omega
  have hnx : 0 ≤ nx ∧ nx ≤ 1073741824 := ⟨hok.1, hok.2.1⟩
  obtain ⟨hsort, hbnd⟩ := ksOk_sorted hok.2.2.2
  have hksl := hok.2.2.1
  unfold trystref15_Take.c6
  refine ⟨_, h4.s.cell0 1 rfl rfl, _, h4.s.cell 1 rfl 1 rfl, ?_⟩
  intro w5
  obtain ⟨k1, k2⟩ := h4.kyNil.tmp 104 (zs := [.int .i64 0, .int .i64 0, .slice none 0 0]) (cs := rtC c nx ⟨none, 0, 0⟩) rfl
  refine ⟨k1, ?_⟩
  intro w6
  have h6 : At W w6 (boxA (newA w4) (rtC c nx ⟨none, 0, 0⟩) :: kyA ⟨none, 0, 0⟩ (stayK (ks.take 0) n) :: boxA tb [.int .i64 0, .int .i64 0, .slice none 0 0] :: boxA rb (rtC c nx s) :: pgT p T :: R) := k2
  clear_value w6
  generalize newA w4 = sb at h6 ⊢
  have hslen := (hK [_, _, _, _, _] w6 h6).len
  unfold trystref15_Take.l5
  refine ⟨fun x w' => ∃ (k : Nat) (s' : Sl), x.2 = k ∧ k ≤ ks.length ∧ x.1 = keyOf (ks.take k) n (-1) ∧ At W w' (boxA sb (rtC c nx s') :: kyA s' (stayK (ks.take k) n) :: boxA tb [.int .i64 0, .int .i64 0, .slice none 0 0] :: boxA rb (rtC c nx s) :: pgT p T :: R), fun x _ => ks.length - x.2.toNat, ⟨0, _, rfl, Nat.zero_le _, rfl, h6⟩, ?_⟩
  clear h6 k1 k2
  rintro ⟨_, _⟩ w7 ⟨k, s', rfl, hk, rfl, h7⟩
  show trystref15_Take.b5 RR _ (some p) n rb tb sb (keyOf (ks.take k) n (-1)) (k : Int) w7
  unfold trystref15_Take.b5
  have hst := stayK_len (ks.take k) n
  have htl : (ks.take k).length ≤ 16 := by rw [List.length_take]; omega
  refine ⟨_, _, _, h7.s.cell 3 rfl 2 rfl, cond_d (p := (k : Int) < ((s.len : Nat) : Int)) (fun hlt => ?_) fun hge => ?_⟩
  · have hkl : k < ks.length := by omega
    have et : ks.take (k + 1) = ks.take k ++ [ks[k]] := List.take_succ_eq_append_getElem hkl
    obtain ⟨q, hq, c1, c2⟩ := (hK [_, _, _, _, _] w7 h7).cell k ks[k] (List.getElem?_eq_getElem hkl)
    refine ⟨_, _, _, h7.s.cell 3 rfl 2 rfl, by omega, by omega, q, hq, _, by rw [Int.toNat_natCast]; exact c1, cond_e (fun he => ?_) fun he => ?_⟩
    · refine ⟨_, _, _, h7.s.cell 3 rfl 2 rfl, by omega, by omega, q, hq, _, by rw [Int.toNat_natCast]; exact c2, ?_⟩
      dsimp only
      rw [inc (by omega)]
      refine ⟨⟨rfl, rfl, rfl, rfl, rfl, k + 1, s', rfl, by omega, ?_, ?_⟩, by omega⟩
      · rw [et, keyOf_app, if_pos he]
      · rw [et, stayK_app, if_pos he]; exact h7
    · have h8 := h7.drew
      have cells : ∀ {y : World} {L : List Asn}, At W y (L ++ (boxA sb (rtC c nx s') :: kyA s' (stayK (ks.take k) n) :: boxA tb [.int .i64 0, .int .i64 0, .slice none 0 0] :: boxA rb (rtC c nx s) :: pgT p T :: R)) → y.cell? (sb.add 2) = some (.slice s'.a s'.len s'.cap) ∧ y.cell? (rb.add 2) = some (.slice s.a s.len s.cap) ∧ y.cell? (q.add (((k : Int)).toNat * 2)) = some (.int .i64 ks[k].1) ∧ y.cell? ((q.add (((k : Int)).toNat * 2)).add 1) = some (.int .i64 ks[k].2) := by
        intro y L hy
        have hy := hy.dropL
        obtain ⟨q', hq', d1, d2⟩ := (hK [_, _, _, _, _] y hy).cell k ks[k] (List.getElem?_eq_getElem hkl)
        rw [hq] at hq'
        obtain rfl := Option.some.inj hq'
        rw [Int.toNat_natCast]
        exact ⟨hy.s.cell 0 rfl 2 rfl, hy.s.cell 3 rfl 2 rfl, d1, d2⟩
      refine ⟨fun y => y.cell? (sb.add 2) = some (.slice s'.a s'.len s'.cap) ∧ y.cell? (rb.add 2) = some (.slice s.a s.len s.cap) ∧ y.cell? (q.add (((k : Int)).toNat * 2)) = some (.int .i64 ks[k].1) ∧ y.cell? ((q.add (((k : Int)).toNat * 2)).add 1) = some (.int .i64 ks[k].2), cells (L := []) h8,
        _, _, _, fun y hy => hy.1, _, _, _, fun y hy => hy.2.1, by omega, by omega, q, hq, _, fun y hy => hy.2.2.1, _, fun y hy => hy.2.2.2, ?_⟩
      intro w9
      refine ⟨cells (L := []) (h8.keep (below_alloc _ _)), ?_⟩
      obtain ⟨s10, w10, r10, h10⟩ := ky_more 1 rfl h8 ks[k] (by omega)
      have h10 : At W w10 (boxA sb (rtC c nx s') :: kyA s10 (stayK (ks.take k) n ++ [ks[k]]) :: boxA tb [.int .i64 0, .int .i64 0, .slice none 0 0] :: boxA rb (rtC c nx s) :: pgT p T :: R) := h10
      obtain ⟨m1, m2⟩ := h10.put 0 rfl (j := 2) (by simp) (.slice s10.a s10.len s10.cap)
      refine ⟨_, _, _, w10, r10, m1, ?_⟩
      dsimp only
      rw [inc (by omega)]
      refine ⟨⟨rfl, rfl, rfl, rfl, rfl, k + 1, s10, rfl, by omega, ?_, ?_⟩, by omega⟩
      · rw [et, keyOf_app, if_neg he]
      · rw [et, stayK_app, if_neg he]; exact m2
  · rw [List.take_of_length_le (by omega)] at hst h7 ⊢
    clear htl
    unfold trystref15_Take.c4
    refine ⟨_, h7.s.cell 3 rfl 1 rfl, cond_d (fun hlt => ?_) fun hge => ?_⟩
    · by_cases hi : idxK ks n < 0
      · have hnone := idxK_neg hi
        rw [keyOf_none hnone]
        refine cond_t rfl ?_
        have h8 : At W w7 (boxA tb [.int .i64 0, .int .i64 0, .slice none 0 0] :: boxA rb (rtC c nx s) :: pgT p T :: ([boxA sb (rtC c nx s'), kyA s' (stayK ks n)] ++ R)) :=
          h7.perm (by
            refine (List.perm_append_comm (l₁ := [boxA sb (rtC c nx s'), kyA s' (stayK ks n)]) (l₂ := [boxA tb [.int .i64 0, .int .i64 0, .slice none 0 0], boxA rb (rtC c nx s), pgT p T])).append_right R)
        exact out 13 _ w7 h8 (by decide) (by unfold takeErr; rw [if_neg (fun h => h heq), if_neg hnn, if_pos hlt, if_pos hi])
      · obtain ⟨i, g, e1, e2, e3⟩ := idxK_at hi
        obtain ⟨f1, f2⟩ := sorted_at (acc := -1) hsort e2 e3
        have hg := hks g (List.mem_of_getElem? e2)
        have he : takeErr T c nx ks n = 0 := by unfold takeErr; rw [if_neg (fun h => h heq), if_neg hnn, if_pos hlt, if_neg hi]
        have ht : takeT T c nx ks n = (T, g.2, c, nx, stayK ks n) := by unfold takeT; rw [if_pos hlt, e1, Int.toNat_natCast, e2, f2]; rfl
        rw [f1]
        unfold inT at hg
        have h8 := h7.drew
        refine cond_d (fun h => absurd h (by omega)) fun _ => ⟨fun y => y.cell? sb = some (.int .i64 c) ∧ y.cell? (sb.add 1) = some (.int .i64 nx) ∧ y.cell? (sb.add 2) = some (.slice s'.a s'.len s'.cap), ⟨h8.s.cell0 0 rfl rfl, h8.s.cell 0 rfl 1 rfl, h8.s.cell 0 rfl 2 rfl⟩, _, fun y hy => hy.1, _, fun y hy => hy.2.1, _, _, _, fun y hy => hy.2.2, ?_⟩
        obtain ⟨m1, m2⟩ := h8.set3 2 rfl (.int .i64 c) (.int .i64 nx) (.slice s'.a s'.len s'.cap)
        refine ⟨m1, ?_⟩
        intro w9
        have h9 : At W w9 (boxA sb (rtC c nx s') :: kyA s' (stayK ks n) :: boxA tb (rtC c nx s') :: boxA rb (rtC c nx s) :: pgT p T :: R) := m2
        refine ⟨_, h9.s.cell0 2 rfl rfl, _, h9.s.cell 2 rfl 1 rfl, _, _, _, h9.s.cell 2 rfl 2 rfl, ?_⟩
        rw [← hRR]
        refine ⟨fun h => absurd he h, fun _ => ⟨s', kyA s' (stayK ks n), ?_, ?_, ?_⟩⟩
        · rw [ht]
        · rw [ht]
          have h10 := h9.drop.less 2 rfl
          exact h10.less 1 rfl
        · rw [ht]; exact fun R' => KeptK.here
    · refine ⟨_, h7.s.cell 3 rfl 1 rfl, ?_⟩
      rw [w64 (n := n - nx) (by omega)]
      have hnone : ∀ g ∈ ks, g.1 ≠ n := fun g hg => by have := hbnd g hg; omega
      rw [stayK_none hnone] at h7
      refine cond_d (fun hskip => ?_) fun hskip => ?_
      · have h8 : At W w7 (boxA tb [.int .i64 0, .int .i64 0, .slice none 0 0] :: boxA rb (rtC c nx s) :: pgT p T :: ([boxA sb (rtC c nx s'), kyA s' ks] ++ R)) :=
          h7.perm ((List.perm_append_comm (l₁ := [boxA sb (rtC c nx s'), kyA s' ks]) (l₂ := [boxA tb [.int .i64 0, .int .i64 0, .slice none 0 0], boxA rb (rtC c nx s), pgT p T])).append_right R)
        exact out 14 _ w7 h8 (by decide) (by unfold takeErr; rw [if_neg (fun h => h heq), if_neg hnn, if_neg hge, if_pos hskip])
      have he : takeErr T c nx ks n = 0 := by unfold takeErr; rw [if_neg (fun h => h heq), if_neg hnn, if_neg hge, if_neg hskip]
      obtain ⟨M, hM⟩ : ∃ M : Nat, M = (n - nx).toNat := ⟨_, rfl⟩
      have ht : takeT T c nx ks n = ((runT T c nx n (M + 1)).1, (runT T c nx n (M + 1)).2.2.1, (runT T c nx n (M + 1)).2.1, n + 1, last16 (ks ++ (runT T c nx n (M + 1)).2.2.2)) := by unfold takeT; rw [if_neg hge, hM]
      have good := runT_good hc hT nx n
      unfold trystref15_Take.l3
      refine ⟨fun x w' => sb = x ∧ ∃ (m : Nat) (s' : Sl), m ≤ M ∧ At W w' (boxA sb (rtC (runT T c nx n m).2.1 (nx + m) s') :: kyA s' (ks ++ (runT T c nx n m).2.2.2) :: pgT p (runT T c nx n m).1 :: boxA tb [.int .i64 0, .int .i64 0, .slice none 0 0] :: boxA rb (rtC c nx s) :: R), fun _ w' => match w'.cell? (sb.add 1) with | some (.int .i64 x) => (n - x).toNat | _ => 0, ⟨rfl, 0, s', by omega, ?_⟩, ?_⟩
      · show At W w7 (boxA sb (rtC c (nx + (0 : Nat)) s') :: kyA s' (ks ++ []) :: pgT p T :: _)
        rw [List.append_nil, show nx + ((0 : Nat) : Int) = nx by omega]
        exact h7.perm (.cons _ (.cons _ ((List.perm_append_comm (l₁ := [_, _]) (l₂ := [pgT p T])).append_right R)))
      clear h7
      rintro _ w8 ⟨rfl, m, s8, hm, h8⟩
      have hcell := h8.s.cell 0 rfl 1 rfl
      have hmu : (match w8.cell? (sb.add 1) with | some (.int .i64 x) => (n - x).toNat | _ => 0) = (n - (nx + m)).toNat := by rw [hcell]
      dsimp only
      rw [hmu]
      unfold trystref15_Take.b3
      obtain ⟨g1, g2, g3⟩ := good m (by omega)
      have g1l := g1.len
      obtain ⟨tk, td, t1, t2, t3, t4, tg, te1, te2⟩ := turnT_good g2 (by omega)
      have eT1 : (put (runT T c nx n m).1 ⟨4, 1, [(runT T c nx n m).2.1]⟩).2.1 = (turnT (runT T c nx n m).1 (runT T c nx n m).2.1).2.1 := rfl
      refine ⟨_, hcell, cond_d (fun hle => ?_) fun hgt => ?_⟩
      · have h9 := h8.drew
        refine ⟨fun y => y.cell? (sb.add 2) = some (.slice s8.a s8.len s8.cap) ∧ y.cell? (sb.add 1) = some (.int .i64 (nx + m)) ∧ y.cell? sb = some (.int .i64 (runT T c nx n m).2.1), ⟨h9.s.cell 0 rfl 2 rfl, h9.s.cell 0 rfl 1 rfl, h9.s.cell0 0 rfl rfl⟩, _, _, _, fun y hy => hy.1, _, fun y hy => hy.2.1, _, fun y hy => hy.2.2, ?_⟩
        refine (rkdf _ 1 (h9.front 2 rfl)).mono ?_
        rintro _ w10 ⟨rfl, h10⟩
        have h10 : At W w10 (pgT p (put (runT T c nx n m).1 ⟨4, 1, [(runT T c nx n m).2.1]⟩).1 :: boxA sb (rtC (runT T c nx n m).2.1 (nx + m) s8) :: kyA s8 (ks ++ (runT T c nx n m).2.2.2) :: boxA tb [.int .i64 0, .int .i64 0, .slice none 0 0] :: boxA rb (rtC c nx s) :: R) := h10
        refine ⟨_, rfl, ⟨h10.s.cell 1 rfl 2 rfl, h10.s.cell 1 rfl 1 rfl, h10.s.cell0 1 rfl rfl⟩, ?_⟩
        intro w11
        have h11 := h10.keep (below_alloc w10 (.cells #[.int .i64 (nx + m), .int .i64 (put (runT T c nx n m).1 ⟨4, 1, [(runT T c nx n m).2.1]⟩).2.1] 113))
        refine ⟨⟨h11.s.cell 1 rfl 2 rfl, h11.s.cell 1 rfl 1 rfl, h11.s.cell0 1 rfl rfl⟩, ?_⟩
        obtain ⟨s12, w12, r12, h12⟩ := ky_more 2 rfl h10 (nx + (m : Int), (put (runT T c nx n m).1 ⟨4, 1, [(runT T c nx n m).2.1]⟩).2.1) (by rw [List.length_append]; omega)
        have e : (ks ++ (runT T c nx n m).2.2.2) ++ [(nx + (m : Int), (put (runT T c nx n m).1 ⟨4, 1, [(runT T c nx n m).2.1]⟩).2.1)] = ks ++ (runT T c nx n (m + 1)).2.2.2 := by
          show _ = ks ++ (if nx + m < n then _ else _)
          rw [if_pos hle, List.append_assoc, eT1]
        rw [e] at h12
        have h12 : At W w12 (pgT p (put (runT T c nx n m).1 ⟨4, 1, [(runT T c nx n m).2.1]⟩).1 :: boxA sb (rtC (runT T c nx n m).2.1 (nx + m) s8) :: kyA s12 (ks ++ (runT T c nx n (m + 1)).2.2.2) :: boxA tb [.int .i64 0, .int .i64 0, .slice none 0 0] :: boxA rb (rtC c nx s) :: R) := h12
        obtain ⟨m1, m2⟩ := h12.put 1 rfl (j := 2) (by simp) (.slice s12.a s12.len s12.cap)
        refine ⟨_, _, _, w12, r12, m1, ?_⟩
        intro w13
        have h13 : At W w13 (pgT p (put (runT T c nx n m).1 ⟨4, 1, [(runT T c nx n m).2.1]⟩).1 :: boxA sb (rtC (runT T c nx n m).2.1 (nx + m) s12) :: kyA s12 (ks ++ (runT T c nx n (m + 1)).2.2.2) :: boxA tb [.int .i64 0, .int .i64 0, .slice none 0 0] :: boxA rb (rtC c nx s) :: R) := m2
        clear_value w13
        have h14 := h13.drew
        refine ⟨fun y => y.cell? sb = some (.int .i64 (runT T c nx n m).2.1) ∧ y.cell? (sb.add 1) = some (.int .i64 (nx + m)), ⟨h14.s.cell0 1 rfl rfl, h14.s.cell 1 rfl 1 rfl⟩, _, fun y hy => hy.1, _, fun y hy => hy.2, ?_⟩
        refine (rkdf _ 2 h14).mono ?_
        rintro _ w15 ⟨rfl, h15⟩
        have h15 : At W w15 (pgT p (runT T c nx n (m + 1)).1 :: boxA sb (rtC (runT T c nx n m).2.1 (nx + m) s12) :: kyA s12 (ks ++ (runT T c nx n (m + 1)).2.2.2) :: boxA tb [.int .i64 0, .int .i64 0, .slice none 0 0] :: boxA rb (rtC c nx s) :: R) := h15
        refine ⟨_, rfl, ⟨h15.s.cell0 1 rfl rfl, h15.s.cell 1 rfl 1 rfl⟩, ?_⟩
        obtain ⟨n1, n2⟩ := h15.put0 1 rfl (by simp) (.int .i64 (runT T c nx n (m + 1)).2.1)
        refine ⟨n1, ?_⟩
        intro w16
        have h16 : At W w16 (pgT p (runT T c nx n (m + 1)).1 :: boxA sb (rtC (runT T c nx n (m + 1)).2.1 (nx + m) s12) :: kyA s12 (ks ++ (runT T c nx n (m + 1)).2.2.2) :: boxA tb [.int .i64 0, .int .i64 0, .slice none 0 0] :: boxA rb (rtC c nx s) :: R) := n2
        clear_value w16
        rw [w64 (n := nx + m + 1) (by omega)]
        obtain ⟨o1, o2⟩ := h16.put 1 rfl (j := 1) (by simp) (.int .i64 (nx + m + 1))
        refine ⟨o1, ?_⟩
        intro w17
        have h17 : At W w17 (pgT p (runT T c nx n (m + 1)).1 :: boxA sb (rtC (runT T c nx n (m + 1)).2.1 (nx + m + 1) s12) :: kyA s12 (ks ++ (runT T c nx n (m + 1)).2.2.2) :: boxA tb [.int .i64 0, .int .i64 0, .slice none 0 0] :: boxA rb (rtC c nx s) :: R) := o2
        clear_value w17
        refine ⟨⟨rfl, rfl, rfl, rfl, m + 1, s12, by omega, ?_⟩, ?_⟩
        · rw [show nx + ((m + 1 : Nat) : Int) = nx + m + 1 by omega]
          exact (h17.front 2 rfl).front 2 rfl
        · rw [h17.s.cell 1 rfl 1 rfl]
          show (n - (nx + m + 1)).toNat < _
          omega
      · have hmM : m = M := by omega
        subst hmM
        have enx : nx + (m : Int) = n := by omega
        have esk : (runT T c nx n (m + 1)).2.2.2 = (runT T c nx n m).2.2.2 := by
          show (if nx + m < n then _ else _ : List Ky) = _
          rw [if_neg (by omega)]
        rw [esk] at ht
        have hskl := (h8.kys 1 rfl).len
        have hskc := (h8.kys 1 rfl).cap
        rw [List.length_append] at hskl
        -- the last key
        have c1 : ∀ (w' : World) (s' : Sl), At W w' (boxA sb (rtC (runT T c nx n m).2.1 (nx + m) s') :: kyA s8 (ks ++ (runT T c nx n m).2.2.2) :: pgT p (runT T c nx n m).1 :: boxA tb [.int .i64 0, .int .i64 0, .slice none 0 0] :: boxA rb (rtC c nx s) :: R) → (∀ R', KeptK W (kyA s8 (ks ++ (runT T c nx n m).2.2.2) :: R') s' (last16 (ks ++ (runT T c nx n m).2.2.2))) → trystref15_Take.c1 RR (some p) tb sb w' := by
          intro w' s' h' hK'
          unfold trystref15_Take.c1
          refine ⟨_, h'.s.cell0 0 rfl rfl, (rkdf _ 1 (h'.front 2 rfl)).mono ?_⟩
          rintro _ w10 ⟨rfl, h10⟩
          have h10 : At W w10 (pgT p (put (runT T c nx n m).1 ⟨4, 1, [(runT T c nx n m).2.1]⟩).1 :: boxA sb (rtC (runT T c nx n m).2.1 (nx + m) s') :: kyA s8 (ks ++ (runT T c nx n m).2.2.2) :: boxA tb [.int .i64 0, .int .i64 0, .slice none 0 0] :: boxA rb (rtC c nx s) :: R) := h10
          have h14 := h10.drew
          refine ⟨_, rfl, fun y => y.cell? sb = some (.int .i64 (runT T c nx n m).2.1) ∧ y.cell? (sb.add 1) = some (.int .i64 (nx + m)), ⟨h14.s.cell0 1 rfl rfl, h14.s.cell 1 rfl 1 rfl⟩, _, fun y hy => hy.1, _, fun y hy => hy.2, ?_⟩
          refine (rkdf _ 2 h14).mono ?_
          rintro _ w15 ⟨rfl, h15⟩
          have h15 : At W w15 (pgT p (runT T c nx n (m + 1)).1 :: boxA sb (rtC (runT T c nx n m).2.1 (nx + m) s') :: kyA s8 (ks ++ (runT T c nx n m).2.2.2) :: boxA tb [.int .i64 0, .int .i64 0, .slice none 0 0] :: boxA rb (rtC c nx s) :: R) := h15
          refine ⟨_, rfl, ⟨h15.s.cell0 1 rfl rfl, h15.s.cell 1 rfl 1 rfl⟩, ?_⟩
          obtain ⟨n1, n2⟩ := h15.put0 1 rfl (by simp) (.int .i64 (runT T c nx n (m + 1)).2.1)
          refine ⟨n1, ?_⟩
          intro w16
          have h16 : At W w16 (pgT p (runT T c nx n (m + 1)).1 :: boxA sb (rtC (runT T c nx n (m + 1)).2.1 (nx + m) s') :: kyA s8 (ks ++ (runT T c nx n m).2.2.2) :: boxA tb [.int .i64 0, .int .i64 0, .slice none 0 0] :: boxA rb (rtC c nx s) :: R) := n2
          clear_value w16
          rw [enx, w64 (n := n + 1) (by omega)]
          rw [enx] at h16
          obtain ⟨o1, o2⟩ := h16.put 1 rfl (j := 1) (by simp) (.int .i64 (n + 1))
          refine ⟨o1, ?_⟩
          intro w17
          have h17 : At W w17 (pgT p (runT T c nx n (m + 1)).1 :: boxA sb (rtC (runT T c nx n (m + 1)).2.1 (n + 1) s') :: kyA s8 (ks ++ (runT T c nx n m).2.2.2) :: boxA tb [.int .i64 0, .int .i64 0, .slice none 0 0] :: boxA rb (rtC c nx s) :: R) := o2
          clear_value w17
          have h18 := h17.drew
          refine ⟨fun y => y.cell? sb = some (.int .i64 (runT T c nx n (m + 1)).2.1) ∧ y.cell? (sb.add 1) = some (.int .i64 (n + 1)) ∧ y.cell? (sb.add 2) = some (.slice s'.a s'.len s'.cap), ⟨h18.s.cell0 1 rfl rfl, h18.s.cell 1 rfl 1 rfl, h18.s.cell 1 rfl 2 rfl⟩, _, fun y hy => hy.1, _, fun y hy => hy.2.1, _, _, _, fun y hy => hy.2.2, ?_⟩
          obtain ⟨q1, q2⟩ := h18.set3 3 rfl (.int .i64 (runT T c nx n (m + 1)).2.1) (.int .i64 (n + 1)) (.slice s'.a s'.len s'.cap)
          refine ⟨q1, ?_⟩
          intro w19
          have h19 : At W w19 (pgT p (runT T c nx n (m + 1)).1 :: boxA sb (rtC (runT T c nx n (m + 1)).2.1 (n + 1) s') :: kyA s8 (ks ++ (runT T c nx n m).2.2.2) :: boxA tb (rtC (runT T c nx n (m + 1)).2.1 (n + 1) s') :: boxA rb (rtC c nx s) :: R) := q2
          refine ⟨_, h19.s.cell0 3 rfl rfl, _, h19.s.cell 3 rfl 1 rfl, _, _, _, h19.s.cell 3 rfl 2 rfl, ?_⟩
          rw [← hRR]
          refine ⟨fun h => absurd he h, fun _ => ⟨s', kyA s8 (ks ++ (runT T c nx n m).2.2.2), ?_, ?_, ?_⟩⟩
          · rw [ht]; rfl
          · rw [ht]
            have k1 := h19.less 4 rfl
            have k2 := k1.less 3 rfl
            have k3 := k2.less 1 rfl
            exact k3.swap
          · rw [ht]; exact hK'
        unfold trystref15_Take.c2
        refine ⟨_, _, _, h8.s.cell 0 rfl 2 rfl, cond_d (fun hbig => ?_) fun hsmall => ?_⟩
        · have e16 : IntKind.i64.wrap (((s8.len : Nat) : Int) - 16) = ((s8.len - 16 : Nat) : Int) := by rw [w64 (by omega)]; omega
          refine ⟨_, _, _, h8.s.cell 0 rfl 2 rfl, _, _, _, h8.s.cell 0 rfl 2 rfl, ?_⟩
          rw [e16]
          refine ⟨by omega, by omega, by omega, by omega, ?_⟩
          obtain ⟨n1, n2⟩ := h8.put 0 rfl (j := 2) (by simp) (.slice (if s8.cap = s8.len - 16 then s8.a else s8.a.map (·.add ((s8.len - 16) * 2))) (s8.len - (s8.len - 16)) (s8.cap - (s8.len - 16)))
          refine ⟨n1, ?_⟩
          exact c1 _ ⟨if s8.cap = s8.len - 16 then s8.a else s8.a.map (·.add ((s8.len - 16) * 2)), s8.len - (s8.len - 16), s8.cap - (s8.len - 16)⟩ n2 (fun R' => by
            have := (KeptK.here (W := W) (R := R') (s := s8) (ks := ks ++ (runT T c nx n m).2.2.2)).drop (m := s8.len - 16) (by rw [List.length_append]; omega)
            unfold last16
            rw [List.length_append, ← hskl]
            exact this)
        · refine c1 _ s8 h8 fun R' => ?_
          have : last16 (ks ++ (runT T c nx n m).2.2.2) = ks ++ (runT T c nx n m).2.2.2 := by
            unfold last16
            rw [List.length_append, show ks.length + (runT T c nx n m).2.2.2.length - 16 = 0 by omega, List.drop_zero]
          rw [this]
          exact KeptK.here

theorem rsend_at (h : At W w (pgT p T :: R)) (c nx : Int) {s : Sl} {ks : List Ky} (hl : ks.length ≤ 1000000) (hT : T.length ≤ 900000) (hK : KeptK W R s ks) :
    CallsV Tryd.prog n_trystref15_Send #[.pointer (some p), rtV c nx s] w fun v w' =>
      (sendErr T c nx ks ≠ 0 → v = .tuple #[.int .i64 0, .int .i64 0, rtV 0 0 ⟨none, 0, 0⟩, .int .i64 (sendErr T c nx ks)] ∧ At W w' (pgT p T :: R)) ∧
      (sendErr T c nx ks = 0 → ∃ s' : Sl, v = .tuple #[.int .i64 (turnT T c).2.1, .int .i64 nx, rtV (turnT T c).2.2 (nx + 1) s', .int .i64 0] ∧ At W w' (kyA s' ks :: pgT p (turnT T c).1 :: R)) := by
  refine trystref15_Send.lift (r1_2 := s) ?_
  unfold trystref15_Send.main
  generalize hRR : (fun (v : Value) (w' : World) => (sendErr T c nx ks ≠ 0 → v = .tuple #[.int .i64 0, .int .i64 0, rtV 0 0 ⟨none, 0, 0⟩, .int .i64 (sendErr T c nx ks)] ∧ At W w' (pgT p T :: R)) ∧
      (sendErr T c nx ks = 0 → ∃ s' : Sl, v = .tuple #[.int .i64 (turnT T c).2.1, .int .i64 nx, rtV (turnT T c).2.2 (nx + 1) s', .int .i64 0] ∧ At W w' (kyA s' ks :: pgT p (turnT T c).1 :: R))) = RR
  intro w1
  have h1 : At W w1 (boxA (newA w) (rtC c nx s) :: pgT p T :: R) := h.box 104 (rtC c nx s)
  clear_value w1
  generalize newA w = rb at h1 ⊢
  intro w2
  have h2 : At W w2 (boxA (newA w1) [.int .i64 0, .int .i64 0, .slice none 0 0] :: boxA rb (rtC c nx s) :: pgT p T :: R) := h1.box 104 [.int .i64 0, .int .i64 0, .slice none 0 0]
  clear_value w2
  generalize newA w1 = tb at h2 ⊢
  have out : ∀ (e : Int) (w' : World), At W w' (boxA tb [.int .i64 0, .int .i64 0, .slice none 0 0] :: boxA rb (rtC c nx s) :: pgT p T :: R) → e ≠ 0 → sendErr T c nx ks = e → (∀ j, j < 3 → Wr w' (tb.add j)) ∧
      (let w4 := setCells tb [.int .i64 0, .int .i64 0, .slice none 0 0] 0 w'; ∃ x_8 : Int, w4.cell? tb = some (.int .i64 x_8) ∧ ∃ x_9 : Int, w4.cell? (tb.add 1) = some (.int .i64 x_9) ∧ ∃ (a_10 : Option Addr) (l_11 c_12 : Nat), w4.cell? (tb.add 2) = some (.slice a_10 l_11 c_12) ∧
        RR (.tuple #[.int .i64 0, .int .i64 0, .agg #[.int .i64 x_8, .int .i64 x_9, .slice a_10 l_11 c_12], .int .i64 e]) w4) := by
    intro e w' h' hne he
    obtain ⟨k1, k2⟩ := h'.set3 0 rfl (.int .i64 0) (.int .i64 0) (.slice none 0 0)
    refine ⟨k1, ?_⟩
    have k2 : At W (setCells tb [.int .i64 0, .int .i64 0, .slice none 0 0] 0 w') (boxA tb [.int .i64 0, .int .i64 0, .slice none 0 0] :: boxA rb (rtC c nx s) :: pgT p T :: R) := k2
    refine ⟨_, k2.s.cell0 0 rfl rfl, _, k2.s.cell 0 rfl 1 rfl, _, _, _, k2.s.cell 0 rfl 2 rfl, ?_⟩
    rw [← hRR]
    show (sendErr T c nx ks ≠ 0 → _) ∧ (sendErr T c nx ks = 0 → _)
    rw [he]
    exact ⟨fun _ => ⟨rfl, k2.drop.drop⟩, fun h => absurd h hne⟩
  refine ⟨_, h2.s.cell0 1 rfl rfl, _, h2.s.cell 1 rfl 1 rfl, _, _, _, h2.s.cell 1 rfl 2 rfl, ?_⟩
  refine (rright_at h2 c nx (s := s) hl hK.cons.cons.cons).mono ?_
  rintro _ w3 ⟨rfl, h3⟩
  refine ⟨_, rfl, cond_not (fun hf => ?_) fun ht => ?_⟩
  · have hno := of_decide_eq_false hf
    exact out 1 w3 h3 (by decide) (by unfold sendErr rtErr; rw [if_pos hno, if_pos (by decide)])
  have hok := of_decide_eq_true ht
  refine ⟨_, h3.s.cell0 1 rfl rfl, _, h3.s.cell 1 rfl 1 rfl, _, _, _, h3.s.cell 1 rfl 2 rfl, ?_⟩
  refine (rnodes_at (h3.front 2 rfl) c nx (s := s) hl hK.cons.cons).mono ?_
  rintro _ w4 ⟨rfl, h4⟩
  have h4 : At W w4 (boxA tb [.int .i64 0, .int .i64 0, .slice none 0 0] :: boxA rb (rtC c nx s) :: pgT p T :: R) := (h4.front 2 rfl).front 2 rfl
  refine ⟨_, rfl, cond_not (fun hf => ?_) fun ht => ?_⟩
  · have hno := of_decide_eq_false hf
    have e8 : rtErr T c nx ks = 8 := by unfold rtErr; rw [if_neg (fun h => h hok), if_pos hno]
    exact out 8 w4 h4 (by decide) (by unfold sendErr; rw [e8, if_pos (by decide)])
  obtain ⟨hc, hks⟩ := of_decide_eq_true ht
  have heq : rtErr T c nx ks = 0 := rtErr0.2 ⟨hok, hc, hks⟩
  have hnx : 0 ≤ nx ∧ nx ≤ 1073741824 := ⟨hok.1, hok.2.1⟩
  refine ⟨_, h4.s.cell 1 rfl 1 rfl, cond_e (fun hlast => ?_) fun hlast => ?_⟩
  · exact out 20 w4 h4 (by decide) (by unfold sendErr; rw [if_neg (fun h => h heq), if_pos hlast])
  have hs0 : sendErr T c nx ks = 0 := by unfold sendErr; rw [if_neg (fun h => h heq), if_neg hlast]
  refine ⟨_, h4.s.cell0 1 rfl rfl, _, h4.s.cell 1 rfl 1 rfl, _, _, _, h4.s.cell 1 rfl 2 rfl, ?_⟩
  refine (twin_rt h4 c nx (s := s) hl hK.cons.cons.cons).mono ?_
  rintro _ w5 ⟨s5, rfl, h5⟩
  refine ⟨_, _, _, _, _, rfl, ?_⟩
  intro w6
  obtain ⟨k1, k2⟩ := h5.tmp 104 (zs := [.int .i64 0, .int .i64 0, .slice none 0 0]) (cs := rtC c nx s5) rfl
  refine ⟨k1, ?_⟩
  intro w7
  have h7 : At W w7 (boxA (newA w5) (rtC c nx s5) :: kyA s5 ks :: boxA tb [.int .i64 0, .int .i64 0, .slice none 0 0] :: boxA rb (rtC c nx s) :: pgT p T :: R) := k2
  clear_value w7
  generalize newA w5 = sb at h7 ⊢
  refine ⟨_, h7.s.cell0 0 rfl rfl, (rkdf _ 1 (h7.front 4 rfl)).mono ?_⟩
  rintro _ w8 ⟨rfl, h8⟩
  have h8 : At W w8 (pgT p (put T ⟨4, 1, [c]⟩).1 :: boxA sb (rtC c nx s5) :: kyA s5 ks :: boxA tb [.int .i64 0, .int .i64 0, .slice none 0 0] :: boxA rb (rtC c nx s) :: R) := h8
  have h9 := h8.drew
  refine ⟨_, rfl, fun y => y.cell? sb = some (.int .i64 c) ∧ y.cell? (sb.add 1) = some (.int .i64 nx), ⟨h9.s.cell0 1 rfl rfl, h9.s.cell 1 rfl 1 rfl⟩, _, fun y hy => hy.1, _, fun y hy => hy.2, ?_⟩
  refine (rkdf _ 2 h9).mono ?_
  rintro _ w10 ⟨rfl, h10⟩
  have h10 : At W w10 (pgT p (turnT T c).1 :: boxA sb (rtC c nx s5) :: kyA s5 ks :: boxA tb [.int .i64 0, .int .i64 0, .slice none 0 0] :: boxA rb (rtC c nx s) :: R) := h10
  refine ⟨_, rfl, ⟨h10.s.cell0 1 rfl rfl, h10.s.cell 1 rfl 1 rfl⟩, ?_⟩
  obtain ⟨n1, n2⟩ := h10.put0 1 rfl (by simp) (.int .i64 (turnT T c).2.2)
  refine ⟨n1, ?_⟩
  intro w11
  have h11 : At W w11 (pgT p (turnT T c).1 :: boxA sb (rtC (turnT T c).2.2 nx s5) :: kyA s5 ks :: boxA tb [.int .i64 0, .int .i64 0, .slice none 0 0] :: boxA rb (rtC c nx s) :: R) := n2
  clear_value w11
  rw [w64 (n := nx + 1) (by omega)]
  obtain ⟨o1, o2⟩ := h11.put 1 rfl (j := 1) (by simp) (.int .i64 (nx + 1))
  refine ⟨o1, ?_⟩
  intro w12
  have h12 : At W w12 (pgT p (turnT T c).1 :: boxA sb (rtC (turnT T c).2.2 (nx + 1) s5) :: kyA s5 ks :: boxA tb [.int .i64 0, .int .i64 0, .slice none 0 0] :: boxA rb (rtC c nx s) :: R) := o2
  clear_value w12
  have h13 := h12.drew
  refine ⟨fun y => y.cell? (rb.add 1) = some (.int .i64 nx) ∧ y.cell? sb = some (.int .i64 (turnT T c).2.2) ∧ y.cell? (sb.add 1) = some (.int .i64 (nx + 1)) ∧ y.cell? (sb.add 2) = some (.slice s5.a s5.len s5.cap), ⟨h13.s.cell 4 rfl 1 rfl, h13.s.cell0 1 rfl rfl, h13.s.cell 1 rfl 1 rfl, h13.s.cell 1 rfl 2 rfl⟩, _, fun y hy => hy.1, _, fun y hy => hy.2.1, _, fun y hy => hy.2.2.1, _, _, _, fun y hy => hy.2.2.2, ?_⟩
  obtain ⟨q1, q2⟩ := h13.set3 3 rfl (.int .i64 (turnT T c).2.2) (.int .i64 (nx + 1)) (.slice s5.a s5.len s5.cap)
  refine ⟨q1, ?_⟩
  intro w14
  have h14 : At W w14 (pgT p (turnT T c).1 :: boxA sb (rtC (turnT T c).2.2 (nx + 1) s5) :: kyA s5 ks :: boxA tb (rtC (turnT T c).2.2 (nx + 1) s5) :: boxA rb (rtC c nx s) :: R) := q2
  refine ⟨_, h14.s.cell0 3 rfl rfl, _, h14.s.cell 3 rfl 1 rfl, _, _, _, h14.s.cell 3 rfl 2 rfl, ?_⟩
  rw [← hRR]
  refine ⟨fun h => absurd hs0 h, fun _ => ⟨s5, rfl, ?_⟩⟩
  have e1 := h14.less 4 rfl
  have e2 := e1.less 3 rfl
  have e3 := e2.less 1 rfl
  exact e3.swap
end

end Go.Proofs.YtoclhecldmahiaaDoor
