/-
  Terms: a new arena, a term that is made: contracts.
-/
import Derived.Test.YtpihglmgkfecbaaDoorTmA
set_option linter.unusedVariables false
set_option linter.unusedSimpArgs false
namespace Go.Proofs.YtpihglmgkfecbaaDoor
open Go.Lf Go.RowKit

abbrev arA (p : Addr) (N : Nds) : Asn := arenaA 43 p N
abbrev pgA (p : Addr) (N : Nds) : Asn := pageA 43 p N

theorem Sep.any {B : Nat} {w : World} {l R : List Asn} (h : Sep B w (l ++ R)) : Sep B w (exA (fun _ : Unit => True) (fun _ => l) :: R) := h.fold () trivial

theorem new_spec {B : Nat} {w : World} {R : List Asn} (h : Sep B w R) : CallsV Tryd.prog n_term_New #[] w fun v w' => ∃ p : Addr, v = .pointer (some p) ∧ Sep B w' (arA p [] :: R) ∧ Below B w w' := by
  refine term_New.lift ?_
  unfold term_New.main
  intro w1 w2
  obtain ⟨h1, hb1⟩ := h.mapNew
  obtain ⟨h2, hb2⟩ := (h1.intsNil .i64).box [.slice none 0 0, .map (some w.heap.size)] 68
  refine ⟨_, rfl, ?_, hb1.trans hb2⟩
  refine Sep.fold (⟨none, 0, 0⟩, w.heap.size) ⟨TOk.nil, fun x hx => by cases hx⟩ ?_
  have h3 := h2.rowNil 43 3
  -- row, box, ints, map
  have h4 : Sep B w2 (boxA (newA w1) [.slice none 0 0, .map (some w.heap.size)] :: rowA 43 3 ⟨none, 0, 0⟩ 0 [] :: mapA w.heap.size [] :: intsAll .i64 [] :: R) := by
    refine h3.perm ?_
    refine (List.Perm.swap _ _ _).trans (List.Perm.cons _ (List.Perm.cons _ (List.Perm.swap _ _ _)))
  exact h4

theorem put_bad {T : List Tm} {t : Tm} {e : Int} (h : errOf T t = e) (he : e ≠ 0) : put T t = (T, 0, e) := by
  unfold put; rw [h, if_pos he]
theorem put_is {T : List Tm} {t : Tm} (h : errOf T t = 0) {i : Nat} (hi : place T t = some i) : put T t = (T, (i : Int), 0) := by
  unfold put; rw [h, if_neg (by simp), hi]
theorem put_full {T : List Tm} {t : Tm} (h : errOf T t = 0) (hi : place T t = none) (hl : 1048576 ≤ T.length) : put T t = (T, 0, 7) := by
  unfold put; rw [h, if_neg (by simp), hi]; simp [hl]
theorem put_new {T : List Tm} {t : Tm} (h : errOf T t = 0) (hi : place T t = none) (hl : ¬ 1048576 ≤ T.length) : put T t = (T ++ [t], (T.length : Int), 0) := by
  unfold put; rw [h, if_neg (by simp), hi]; simp [hl]

theorem flat_more {N : Nds} {x : Tm × Sl} : flat nodeC (N ++ [x]) = flat nodeC N ++ nodeC x := by rw [flat_app, flat_one]

theorem make_spec {B : Nat} {w : World} {p : Addr} {N : Nds} {R : List Asn} {t : Tm} {s : Sl} (h : Sep B w (arA p N :: R)) (hT : PT B w) (hn : t.n ≤ 9223372036854775807)
    (hI : ∀ X w', Sep B w' (X :: R) → Below B w w' → Ints .i64 w' s t.args) :
    CallsV Tryd.prog n_term_Arena_Make #[.pointer (some p), .int .i64 t.kind, .int .i64 t.n, .slice s.a s.len s.cap] w fun v w' => ∃ more, v = .tuple #[.int .i64 (put (terms N) t).2.1, .int .i64 (put (terms N) t).2.2] ∧
      terms (N ++ more) = (put (terms N) t).1 ∧ Sep B w' (arA p (N ++ more) :: R) ∧ Below B w w' := by
  refine term_Arena_Make.lift ?_
  have hI0 := hI _ _ h (Below.refl _ _)
  have hlen := hI0.len
  obtain ⟨⟨sl, m⟩, ⟨hok, hcaps⟩, hS⟩ := h.unfold
  simp only at hS
  have hsl : sl.len = N.length := (hS.rowLen 1 rfl).1
  have hfew := hok.few
  rw [terms_len] at hfew
  generalize hRR : (fun (v : Value) (w' : World) => ∃ more, v = .tuple #[.int .i64 (put (terms N) t).2.1, .int .i64 (put (terms N) t).2.2] ∧ terms (N ++ more) = (put (terms N) t).1 ∧ Sep B w' (arA p (N ++ more) :: R) ∧ Below B w w') = RR
  have bad : ∀ (e : Int) w', errOf (terms N) t = e → e ≠ 0 → w = w' → RR (.tuple #[.int .i64 0, .int .i64 e]) w' := by
    intro e w' he h0 hw
    subst hw
    rw [← hRR]
    refine ⟨[], by rw [put_bad he h0], by rw [put_bad he h0, List.append_nil], by rw [List.append_nil]; exact h, Below.refl _ _⟩
  have c5 : ∀ nb : Bool, nb = decide (numbered t.kind) → term_Arena_Make.c5 RR (some p) t.kind t.n s nb w := by
    intro nb hnb
    unfold term_Arena_Make.c5
    refine (many_spec t.kind w).mono ?_
    rintro _ _ ⟨rfl, rfl⟩
    refine ⟨_, _, rfl, cond_d (fun h1 => bad 6 _ ?_ (by decide) rfl) fun h1 => cond_d (fun h2 => bad 6 _ ?_ (by decide) rfl) fun h2 => ?_⟩
    · unfold errOf; rw [if_pos (by omega)]
    · unfold errOf; rw [if_pos (by omega)]
    have e1 : ∀ {a b : Int}, (if ¬ (1 ≤ t.kind ∧ t.kind ≤ 9) then a else b) = b := fun {a b} => if_neg (by omega)
    unfold term_Arena_Make.c4
    have c3 : ¬ (t.n < 0 ∨ 0 < t.n ∧ ¬ numbered t.kind) → term_Arena_Make.c3 RR (some p) t.kind t.n s (least t.kind : Int) (mostOf t.kind : Int) w := by
      intro hnn
      have e2 : ∀ {a b : Int}, (if t.n < 0 ∨ 0 < t.n ∧ ¬ numbered t.kind then a else b) = b := fun {a b} => if_neg hnn
      have hn0 : 0 ≤ t.n := by
        rcases Int.lt_or_le t.n 0 with h | h
        · exact absurd (.inl h) hnn
        · exact h
      unfold term_Arena_Make.c3
      refine cond_d (fun h3 => bad 2 _ ?_ (by decide) rfl) fun h3 => cond_d (fun h4 => bad 2 _ ?_ (by decide) rfl) fun h4 => ?_
      · unfold errOf; rw [e1, e2, if_pos (by omega)]
      · unfold errOf; rw [e1, e2, if_pos (by omega)]
      have e3 : ∀ {a b : Int}, (if t.args.length < least t.kind ∨ mostOf t.kind < t.args.length then a else b) = b := fun {a b} => if_neg (by omega)
      have hm4 : mostOf t.kind ≤ 400 := by unfold mostOf; split <;> (try split) <;> omega
      unfold term_Arena_Make.c2
      refine (has_spec (T := terms N) (by rw [terms_len, ← hsl]; exact hS.cell0 0 rfl rfl) hI0).mono ?_
      rintro _ _ ⟨rfl, rfl⟩
      refine ⟨_, rfl, cond_not (fun h5 => bad 8 _ ?_ (by decide) rfl) fun h5 => ?_⟩
      · unfold errOf; rw [e1, e2, e3, if_pos (of_decide_eq_false h5)]
      have hin := of_decide_eq_true h5
      have he0 : errOf (terms N) t = 0 := by unfold errOf; rw [e1, e2, e3, if_neg (fun h => h hin)]
      unfold term_Arena_Make.c1
      refine (key_spec hT h.le hI0 (by omega) ?_).mono ?_
      · intro x hx
        rcases List.mem_cons.1 hx with rfl | hx
        · omega
        rcases List.mem_cons.1 hx with rfl | hx
        · omega
        · have := hin x hx
          unfold inT at this
          rw [terms_len] at this
          omega
      rintro _ w1 ⟨rfl, hb1⟩
      have hS1 := hS.keep hb1
      have hB1 : Below B w w1 := hb1.mono h.le
      have hlook := look_map (P := Tryd.prog) Tryd.underlying66 Tryd.underlying9 (Tryd.zeroValue3 w1) (hS1.mapAt 2 rfl) t.key
      rw [keys_find] at hlook
      refine ⟨_, rfl, p, rfl, _, hS1.cell 0 rfl 1 rfl, _, _, _, hlook, ?_⟩
      cases hp : place (terms N) t with
      | some i =>
        refine cond_t rfl ?_
        rw [← hRR]
        have hput := put_is he0 hp
        refine ⟨[], by rw [hput], by rw [hput, List.append_nil], by rw [List.append_nil]; exact Sep.fold (sl, m) ⟨hok, hcaps⟩ hS1, hB1⟩
      | none =>
        refine cond_f' rfl ⟨p, rfl, _, _, _, hS1.cell0 0 rfl rfl, cond_d (fun h6 => ?_) fun h6 => ?_⟩
        · rw [← hRR]
          have hput := put_full he0 hp (by rw [terms_len]; omega)
          refine ⟨[], by rw [hput], by rw [hput, List.append_nil], by rw [List.append_nil]; exact Sep.fold (sl, m) ⟨hok, hcaps⟩ hS1, hB1⟩
        have hput := put_new he0 hp (by rw [terms_len]; omega)
        have hS2 := hS1.drew
        refine ⟨fun x => x.cell? (p.add 1) = some (.map (some m)) ∧ x.cell? p = some (.slice sl.a sl.len sl.cap), ⟨hS2.cell 0 rfl 1 rfl, hS2.cell0 0 rfl rfl⟩, p, rfl, _, fun x hx => hx.1, p, rfl, _, _, _, fun x hx => hx.2, ?_⟩
        have hkn : ((terms N).map Tm.key).findIdx? (fun k => decide (k = t.key)) = none := by rw [keys_find]; exact hp
        have hst := store_map (P := Tryd.prog) Tryd.underlying66 Tryd.underlying9 (hS2.mapAt 2 rfl) hkn
        have hkl : ((terms N).map Tm.key).length = sl.len := by rw [List.length_map, terms_len, hsl]
        rw [hkl] at hst
        obtain ⟨hS3, hb3⟩ := hS2.mapStore 2 rfl ((terms N).map Tm.key ++ [t.key])
        refine ⟨_, hst, ?_⟩
        generalize ChangeMaps.setBlock w1.drew m (.map (entsFrom 0 ((terms N).map Tm.key ++ [t.key])).toArray ((terms N).map Tm.key ++ [t.key]).length) = w3 at hS3 hb3 ⊢
        have hB3 : Below B w w3 := (hB1.trans ((Same.drew w1).below B)).trans hb3
        have hS3 : Sep B w3 ([boxA p [.slice sl.a sl.len sl.cap, .map (some m)], rowA 43 3 sl N.length (flat nodeC N), mapA m ((terms N).map Tm.key ++ [t.key]), intsAll .i64 (argsL N)] ++ R) := hS3
        have hS4 := hS3.drew
        refine ⟨fun x => x.cell? p = some (.slice sl.a sl.len sl.cap), hS4.cell0 0 rfl rfl, p, rfl, _, _, _, fun x hx => hx, ?_⟩
        have hI4 := hI _ _ (Sep.any hS4) (hB3.trans ((Same.drew w3).below B))
        refine (clone_spec hI4 (by omega)).mono ?_
        rintro _ w4 ⟨s', rfl, ho, hb4⟩
        have hS5 := Sep.intsMore 3 rfl hS4 ho (by omega) hb4
        have hS5 : Sep B w4 ([boxA p [.slice sl.a sl.len sl.cap, .map (some m)], rowA 43 3 sl N.length (flat nodeC N), mapA m ((terms N).map Tm.key ++ [t.key]), intsAll .i64 ((s', t.args) :: argsL N)] ++ R) := hS5
        have hB4 : Below B w w4 := (hB3.trans ((Same.drew w3).below B)).next hb4 h.le
        refine ⟨_, _, _, rfl, hS5.cell0 0 rfl rfl, ?_⟩
        intro w5
        have hb5 : Below w4.heap.size w4 w5 := below_alloc _ _
        have hS6 := hS5.keep hb5
        have hB5 : Below B w w5 := hB4.next hb5 h.le
        refine ⟨hS6.cell0 0 rfl rfl, ?_⟩
        obtain ⟨i, hi, hz, hsz, hby⟩ := t43
        obtain ⟨s6, w6, hr, hl6, hS7, hb6⟩ := Sep.append (ty := 39) (c := 1) (m := 1) Tryd.underlying39 hi hz hsz hby rfl (by omega) 1 rfl hS6 (a := newA w4) (news := nodeC (t, s')) (nodeC.w _) (fun j u hu => by rw [← hu]; exact (cell_new w4 #[.int .i64 t.kind, .int .i64 t.n, .slice s'.a s'.len s'.cap] 43 j).trans (by simp [nodeC]))
          (by intro u hu; simp only [nodeC, List.mem_cons, List.not_mem_nil, or_false] at hu; rcases hu with rfl | rfl | rfl <;> rfl) (by unfold maxLen; omega) (by omega) (by omega)
        refine ⟨_, _, _, _, hr, p, rfl, ?_⟩
        have hS7 : Sep B w6 ([boxA p [.slice sl.a sl.len sl.cap, .map (some m)], rowA 43 3 s6 (N.length + 1) (flat nodeC N ++ nodeC (t, s')), mapA m ((terms N).map Tm.key ++ [t.key]), intsAll .i64 ((s', t.args) :: argsL N)] ++ R) := hS7
        refine ⟨hS7.wr0 0 rfl (by simp), ?_⟩
        obtain ⟨hS8, hb8⟩ := hS7.set0 0 rfl (by simp) (.slice s6.a s6.len s6.cap)
        have hS8 : Sep B (w6.setCell p (.slice s6.a s6.len s6.cap)) ([boxA p [.slice s6.a s6.len s6.cap, .map (some m)], rowA 43 3 s6 (N.length + 1) (flat nodeC N ++ nodeC (t, s')), mapA m ((terms N).map Tm.key ++ [t.key]), intsAll .i64 ((s', t.args) :: argsL N)] ++ R) := hS8
        refine ⟨p, rfl, _, _, _, hS8.cell0 0 rfl rfl, ?_⟩
        rw [show ((s6.len : Nat) : Int) - 1 = (N.length : Int) by omega, w64 (by omega), ← hRR]
        refine ⟨[(t, s')], ?_, ?_, ?_, (hB5.trans hb6).trans hb8⟩
        · rw [hput, terms_len]
        · rw [hput, terms_app]; rfl
        · have hS9 := hS8.intsLess 3 rfl (L' := argsL (N ++ [(t, s')])) (by
            intro x hx
            unfold argsL at hx
            rw [List.map_append, List.mem_append] at hx
            rcases hx with hx | hx
            · exact List.mem_cons_of_mem _ hx
            · simp at hx; subst hx; simp)
          have e9 : TOk (terms (N ++ [(t, s')])) := by
            have := hok.put t
            rw [hput] at this
            rw [terms_app]; exact this
          refine Sep.fold (s6, m) ⟨e9, ?_⟩ ?_
          · intro x hx
            rw [List.mem_append] at hx
            rcases hx with hx | hx
            · exact hcaps x hx
            · simp at hx; subst hx; exact ho.cap
          · unfold arL
            rw [flat_more, terms_app, List.map_append, List.length_append]
            exact hS9
    refine cond_d (fun h3 => bad 1 _ ?_ (by decide) rfl) fun h3 => cond_d (fun h4 => cond_not (fun h5 => bad 1 _ ?_ (by decide) rfl) fun h5 => c3 ?_) fun h4 => c3 ?_
    · unfold errOf; rw [e1, if_pos (.inl (by omega))]
    · unfold errOf; rw [e1, if_pos (.inr ⟨by omega, of_decide_eq_false (by rw [← hnb]; exact h5)⟩)]
    · rintro (h | ⟨_, h⟩)
      · omega
      · exact h (of_decide_eq_true (by rw [← hnb]; exact h5))
    · omega
  unfold term_Arena_Make.main
  refine cond_e (fun h1 => c5 _ (by rw [decide_eq_true]; exact .inl h1)) fun h1 => cond_e (fun h2 => c5 _ (by rw [decide_eq_true]; exact .inr (.inl h2))) fun h2 => c5 _ ?_
  show decide (t.kind = 4) = _
  rw [decide_eq_decide]
  unfold numbered
  omega

end Go.Proofs.YtpihglmgkfecbaaDoor
