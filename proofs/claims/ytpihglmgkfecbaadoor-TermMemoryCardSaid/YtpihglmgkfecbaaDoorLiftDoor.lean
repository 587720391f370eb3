/-
  The frame of a law's proof whose row lists package variables.
-/
import Derived.Test.YtpihglmgkfecbaaDoorLiftLib
import Derived.Deep.DeepHandedRow
import Derived.Lib.LaidTab
namespace Go.Lf
open Go Go.RowKit Go.ChangeShapes

theorem lawLaid {H : Type} {enc : TypeId × Value → H} {C : Checked} {os : Os} {f : FuncId} {fn : Func} {s : OpenSpec} {cs : ChangeSpec} {F : Stop.Interp} {conds : List PathCond} {laid : List (String × DataW Unit)} {tb : TypeId} {k : Nat} (own : ownKnob C.prog.godebug = none) (started : os.Started)
    (hi : C.prog.inits.idxOf? f = none) (hf : C.prog.funcs[f]? = some fn)
    (wit : ∃ (w : World) (tape : Tape) (i : Input), w.os = os ∧ (w.forCall tape i).Shaped C.prog ∧ i.vars = [] ∧ Input.okWide C.prog (w.forCall tape i) .any w.heap.size f i ∧
      s.preRow enc C.prog fn conds false laid (w.forCall tape i).memory i.args ∧ ({} : Assume).holds C.prog (lone (Frame.enter C.prog f i.args .normal) [] (w.forCall tape i)))
    (hl : laidOutB C.prog = true) (hts : (fn.params.toList.all fun t => C.prog.readableRec t && Nat.blt t C.prog.types.size) = true) (hr : fn.resultTypes = #[tb]) (hb : C.prog.underlying tb = some .bool) (hat : s.at F = cs) (hsv : s.vars = []) (hv : cs.vars = [])
    (hk : fn.params.toList.length = k) (hs : ∀ ds : List (DataW H), ds.length = k → cs.fn H ds = { results := [.lit (.bool true)], args := ds })
    (walk : ∀ (W : World) (args : Array Value) (ds : List (DataW H)) (p : List MemPlace), DataW.TrodAll enc C.prog W 0 (fun _ => true) true fn.params.toList args.toList ds p →
      (∃ base, ∀ (j : Nat) (t : TypeId) (v : Value), fn.params[j]? = some t → args[j]? = some v → Value.okWide C.prog W Reach.any base t v) → laidMetH C.prog laid W →
      (∀ kk, s.cond = some kk → kk H (ds ++ []) = true) →
      CallsV C.prog f args W fun v W' => v = .bool true ∧ Below W.heap.size W W') :
    ReturnsInHanded {} C os f .any (s.preRow enc C.prog fn conds false laid) ((s.at F).post enc C.prog fn false true false false) := by
  refine returnsInHanded_of_row (C := C) own started hi hf wit ?_
  intro W base args ds gs before hval hW _ hcond _ hL _ _
  rw [hat]
  rw [hsv] at hW
  have hW' := hW
  obtain ⟨p, q, hA, hV, hp, hfz, hnd⟩ := hW
  obtain ⟨rfl, rfl⟩ := trodVars_none hV
  simp only [List.append_nil] at hp
  subst hp
  rw [← hv] at hW'
  refine Calls.mono (walk W args ds before hA ⟨base, hval⟩ hL hcond) ?_
  rintro e W' ⟨v, rfl, rfl, hB⟩
  refine ⟨_, rfl, ds, [], before, [], before, [], hW', ?_, ?_, ?_, hB.frame _, fun h => by cases h⟩
  · rw [List.append_nil, hs ds (by rw [← hk]; exact (trodAll_length hA).2), hr]
    exact trodAll_mk1 (shut_bool hb true)
  · rw [List.append_nil, hs ds (by rw [← hk]; exact (trodAll_length hA).2)]
    exact trodAll_below hl hB hts hA
  · rw [List.append_nil, hs ds (by rw [← hk]; exact (trodAll_length hA).2), hv]
    rfl

end Go.Lf
