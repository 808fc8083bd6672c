import Derived.Test.YtpkbjabnchfgjaaGreatDoorWGr2
import Derived.Handed
import Derived.Shelf.Vars
import Derived.Lib.LaidTab
namespace Go.Gm
open Go Go.Proofs Go.RowKit Go.ChangeShapes Go.WideShapes Go.ChangeAt
set_option linter.unusedVariables false
theorem zbcw {P : Program} {W : World} (hs : W.ShapedOpen P) {g : Nat} {t : TypeId} (hg : g < P.globals.size) (h0 : ((begin P (fun _ _ => 0) default).world.heap[g]?).bind Obj.row? = some (#[.int .i64 0], t))
  (hb : P.buildable t = true) (hc : P.cellTypes P.depth t = some [t]) (hu : P.underlying t = some (.int .i64)) : (∃ m, W.cell? ⟨g, 0, none⟩ = some (.int .i64 m)) ∧ g < W.heap.size := by
 obtain ⟨m, hm⟩ := cell_of_shapedOpen_int hs hg h0 rfl hb hc hu
 refine ⟨⟨m, hm⟩, ?_⟩
 rcases Nat.lt_or_ge g W.heap.size with h | h
 ·exact h
 ·simp only [World.cell?] at hm
  rw [Array.getElem?_eq_none h] at hm
  cases hm
theorem zja {P : Program} {W : World} {name : String} {k : IntKind} {zs : List Int} {g : Nat} {t e : TypeId} {n : Nat}
  (hg : P.globalNamed name = some g) (hty : (P.globals[g]?).map (·.type) = some t) (ht : P.underlying t = some (.array n e)) (he : P.underlying e = some (.int k)) (hce : P.cellsOf e = 1) (hct : P.cellsOf t = n) :
  ∀ (l : List (String × DataW Unit)) (ps : List MemPlace) (i : Nat), l[i]? = some (name, Lib.tabData k zs) → DataW.LaidVars P W l ps → Lib.TabIs P W name k zs
 | [], _, i, hi, _ => by simp at hi
 | (m, d) :: r, ps, 0, hi, h => by
  obtain ⟨g', t', cs, fuel, p, q, hg', ht', hvar, hd, _, _⟩ := h
  simp only [kk, qc, qr] at hi
  obtain ⟨rfl, rfl⟩ := hi
  obtain rfl := Option.some.inj (hg.symm.trans hg')
  obtain rfl := Option.some.inj (hty.symm.trans ht')
  unfold Lib.TabIs
  rw [hvar, ← Lib.cells_of_tab ht he hce hct hd]
 | (m, d) :: r, ps, i + 1, hi, h => by
  obtain ⟨_, _, _, _, _, q, _, _, _, _, hr, _⟩ := h
  exact zja hg hty ht he hce hct r q i (by simpa using hi) hr
theorem zaus {P : Program} {W : World} {name : String} {k : IntKind} {zs : List Int} {g : Nat} {t e : TypeId} {n : Nat}
  (hg : P.globalNamed name = some g) (hty : (P.globals[g]?).map (·.type) = some t) (ht : P.underlying t = some (.array n e)) (he : P.underlying e = some (.int k)) (hce : P.cellsOf e = 1) (hct : P.cellsOf t = n)
  {l : List (String × DataW Unit)} {i : Nat} (hi : l[i]? = some (name, Lib.tabData k zs)) (h : laidMet P l W) : (∃ T fr, W.heap[g]? = some (.cells (zs.map fun z => Value.int k z).toArray T fr)) ∧ g < W.heap.size := by
 obtain ⟨ps, hv, _⟩ := h
 have ht := zja hg hty ht he hce hct l ps i hi hv
 unfold Lib.TabIs World.var? at ht
 rw [hg, qa] at ht
 split at ht
 ·rename_i cs T fr hh
  obtain rfl := Option.some.inj ht
  refine ⟨⟨T, fr, hh⟩, ?_⟩
  rcases Nat.lt_or_ge g W.heap.size with h | h
  ·exact h
  ·rw [Array.getElem?_eq_none h] at hh; cases hh
 ·cases ht
theorem za0u {H : Type} {enc : TypeId × Value → H} {C : Checked} {os : Os} {f : FuncId} {fn : Func} {s : ChangeSpec} {X : World → Prop} (hX : ∀ w w' : World, w.heap = w'.heap → X w → X w')
  (own : ownKnob C.prog.godebug = none) (started : os.Started) (noInit : C.prog.inits.idxOf? f = none) (hfn : C.prog.funcs[f]? = some fn)
  (wit : ∃ (w : World) (tape : Tape) (i : Input), w.os = os ∧ (w.forCall tape i).Shaped C.prog ∧ i.vars = [] ∧ Input.okWide C.prog (w.forCall tape i) .any w.heap.size f i ∧
   ((s.pre enc C.prog fn [] false (w.forCall tape i).memory i.args ∧ X (w.forCall tape i).memory) ∧ sizedMet enc C.prog fn (OpenSpec.ofChange s) false (w.forCall tape i).memory i.args) ∧ ({} : Assume).holds C.prog (lone (Frame.enter C.prog f i.args .normal) [] (w.forCall tape i)))
  (run : ∀ (W : World) (base : Nat) (args : Array Value) (ds gs : List (DataW H)) (before : List MemPlace), (∀ (j : Nat) t v, fn.params[j]? = some t → args[j]? = some v → Value.okWide C.prog W .any base t v) →
   DataW.Whole enc C.prog fn.params.toList s.vars false W args.toList ds gs before → (DataW.weightsEach C.prog (fn.params.toList ++ s.plain.varTypes C.prog) (ds ++ gs)).all (· ≤ reachBytes) = true → X W → W.ShapedOpen C.prog →
   Calls C.prog f args W fun e W' => ∃ v, e = .returned v ∧ s.post enc C.prog fn false true false false W args v W') :
  ReturnsInHanded {} C os f .any (fun w args => (s.pre enc C.prog fn [] false w args ∧ X w) ∧ sizedMet enc C.prog fn (OpenSpec.ofChange s) false w args) (s.post enc C.prog fn false true false false) :=
 returnsInHanded_of_calls own started noInit wit fun w tape i _ shape _ ok pre _ => by
  obtain ⟨_, _, _, g, hg, _, _, _, _, vals⟩ := ok
  cases hfn.symm.trans hg
  obtain ⟨⟨⟨ds, gs, before, whole, _⟩, x⟩, sized⟩ := pre
  have res := run (w.forCall tape i) w.heap.size i.args ds gs before vals (DataW.Whole.of_heap (w := (w.forCall tape i).memory) (w' := w.forCall tape i) (show (w.forCall tape i).memory.heap = (w.forCall tape i).heap from rfl) whole) (sized.weights whole) (hX (w.forCall tape i).memory (w.forCall tape i) (show (w.forCall tape i).memory.heap = (w.forCall tape i).heap from rfl) x) shape
  exact res.mono fun e W' ⟨v, he, hp⟩ => by subst he; exact ChangeSpec.post_blind hp
end Go.Gm
