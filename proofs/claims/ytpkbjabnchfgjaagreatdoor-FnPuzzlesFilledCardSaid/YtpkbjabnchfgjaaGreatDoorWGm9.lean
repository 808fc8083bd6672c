import Derived.Test.YtpkbjabnchfgjaaGreatDoorWGm8
import Derived.IntWalk
import Derived.Deep.AppendSrc
import Derived.Laws.BytesString
namespace Go.Gm
set_option linter.unusedSimpArgs false
set_option linter.unusedVariables false
set_option linter.unnecessarySimpa false
section
variable {P : Program} {w : World} {ρ : Rho} {R : Tab}
theorem zo1 {t : TypeId} {i : TypeInfo} (hi : P.info? t = some i) : P.bytesOf t = i.bytes := by simp [Program.bytesOf, hi]
theorem zo4 {t : TypeId} {i : TypeInfo} (hi : P.info? t = some i) : P.cellsOf t = i.size := by simp [Program.cellsOf, hi]
theorem zt6 (n : Nat) : (askRoom n).run P w = .ok () w := by unfold askRoom; split <;> rfl
theorem zz3 {o : Oper} {ev : Operand → Option V} {a : Act} {base : Nat} {v : V} {R' : Tab} {t : TypeId} {len cap : Operand} (hm : Mem w ρ R) (hev : EvOK w ρ R ev a) (ho : o.op = .makeSlice t len cap) (h : (zfp P t (ev len) (ev cap) base).run R = some (v, R')) :
  ∃ y w' ρ', zdd P o a w y w' ∧ Step w ρ R w' ρ' R' ∧ RV w' ρ' R' v y := by
 unfold zfp at h
 split at h
 ·rename_i e l c he hl hc
  split at h
  ·rename_i z hz
   split at h
   ·rename_i hcond
    obtain ⟨hzl, hpos, h0, hlc, hb⟩ := hcond
    obtain ⟨hfr, h⟩ := Pr.mk_run h
    obtain ⟨rfl, rfl⟩ := Pr.ret_run h
    obtain ⟨i, zv, hi, hzv, rfl⟩ := zgp hz
    have hzs : zv.cells.size = P.cellsOf e := by rw [← hzl]; simp
    obtain ⟨k1, hk1⟩ := zjl hl
    obtain ⟨k2, hk2⟩ := zjl hc
    have hlv : a.eval len = .int k1 l := hev len _ hk1
    have hcv : a.eval cap = .int k2 c := hev cap _ hk2
    obtain ⟨C, rfl⟩ : ∃ C : Nat, c = C := ⟨c.toNat, by omega⟩
    obtain ⟨L, rfl⟩ : ∃ L : Nat, l = L := ⟨l.toNat, by omega⟩
    simp only [qe] at hb h0 hlc hfr ⊢
    rw [zo1 hi] at hb
    have hCb : C * i.bytes + C ≤ 140737488355328 := by simpa [Nat.mul_add, zda] using hb
    have hC : C ≤ 140737488355328 := by omega
    have hCb2 : C * i.bytes ≤ 140737488355328 := by omega
    have w1 : IntKind.i64.wrap (L : Int) = L := IntWalk.i64_in _ (by omega)
    have w2 : IntKind.i64.wrap (C : Int) = C := IntWalk.i64_in _ (by omega)
    have hbc : ((i.bytes : Int) * (C : Int)) ≤ 140737488355328 := by
     rw [← Int.natCast_mul, Nat.mul_comm]; omega
    have hsz : ((Array.range (C * P.cellsOf e)).map (zv.cells[· % zv.cells.size]!)).size = C * P.cellsOf e := by simp
    obtain ⟨ρ', st, hv⟩ := zok (base := base) (es := P.cellsOf e) (n := L) (cap := C) (cells := (List.replicate C (zv.cells.toList.map zsh)).flatten) (t := e) (cs := (Array.range (C * P.cellsOf e)).map (zv.cells[· % zv.cells.size]!)) hm hfr
     (by rw [List.take_of_length_le (by simp [hzs])]; exact zsc hzs hpos) (by simp [hzs]) (fun x hx => by
      obtain ⟨l, hl, hx⟩ := List.mem_flatten.1 hx
      obtain ⟨_, rfl⟩ := List.mem_replicate.1 hl
      obtain ⟨y, _, rfl⟩ := List.mem_map.1 hx
      exact zjz y) hpos (by omega) (by simp [hzs]) (by simp) (fr := (0, 0)) rfl (w' := { w with heap := w.heap.push (.cells ((Array.range (C * P.cellsOf e)).map (zv.cells[· % zv.cells.size]!)) e) }) rfl rfl rfl
    refine ⟨_, _, ρ', .inl ?_, st, hv⟩
    rw [zax _ o _ ho]
    have hnl : ¬ ((C : Int) < 0) := by omega
    have hn2 : ¬ ((281474976710656 : Int) < (i.bytes : Int) * (C : Int)) := by omega
    have hn3 : ¬ ((L : Int) < 0) := by omega
    have hn4 : ¬ ((C : Int) < (L : Int)) := by omega
    have e0 := zo4 hi
    by_cases h0 : C * i.size = 0
    ·have hr : (Array.range (C * P.cellsOf e)).map (zv.cells[· % zv.cells.size]!) = #[] := by rw [e0, h0]; simp
     rw [hr]
     simp [execOp, Instr.makeSlice, hlv, hcv, asInt, asIntOf, run_underlying (zcj he), run_typeInfo w hi, w1, w2, hn3, hn4, hnl, hn2, zt6, sizeOf, newRow, newObj, Sem.run, h0]
     have hz0 : ∀ f : Nat → Value, Array.map f (Array.range 0) = #[] := fun f => kv (by simp)
     rw [hz0]
    ·simp [execOp, Instr.makeSlice, hlv, hcv, asInt, asIntOf, run_underlying (zcj he), run_typeInfo w hi, w1, w2, hn3, hn4, hnl, hn2, zt6, sizeOf, zme hi hzv, newRow, newObj, Sem.run, h0, e0]
   ·exact Pr.fail_run h
  ·exact Pr.fail_run h
 ·exact Pr.fail_run h
theorem zwe {need old : Nat} (h : old < need) : Builtin.nextslicecap need old ≤ 2 * need := by
 have key : ∀ r c, 256 ≤ c → c ≤ 2 * need → Builtin.growBy need r c ≤ 2 * need := by
  intro r
  induction r with
  | zero => intro c _ h; exact h
  | succ r ih =>
   intro c h1 h2
   simp only [Builtin.growBy]
   split
   ·exact h2
   ·exact ih _ (by omega) (by omega)
 unfold Builtin.nextslicecap
 split
 ·omega
 ·split
  ·omega
  ·exact key 4 old (by omega) (by omega)
theorem z4m {o : Oper} {ev : Operand → Option V} {a : Act} {v : V} {R' : Tab} {src dst e : TypeId} {x : Operand} {s : ByteArray} (hm : Mem w ρ R) (hev : EvOK w ρ R ev a) (ho : o.op = .convert src dst x)
  (h1 : P.underlying src = some .string) (h2 : P.underlying dst = some (.slice e)) (he : P.underlying e = some (.int .u8)) (hx : ev x = some (.g (.b (.v (.string s)))))
  (h : (.ret (.g (.b (.ro s.size (s.data.toList.map fun b => .v (.int .u8 b.toNat)) false true))) : Pr V).run R = some (v, R')) :
  ∃ y w' ρ', zdd P o a w y w' ∧ Step w ρ R w' ρ' R' ∧ RV w' ρ' R' v y := by
 obtain ⟨rfl, rfl⟩ := Pr.ret_run h
 have hxv : a.eval x = .string s := hev x _ hx
 have hge := grownCap_ge w s.size 0 e
 generalize hcap : grownCap w s.size 0 e = cap at hge
 let cs : Array Value := (s.data.map fun b => Value.int .u8 b.toNat) ++ Array.replicate (cap - s.size) (.int .u8 0)
 have hcs : cs.size = cap := by simp only [cs, Array.size_append, Array.size_map, Array.size_replicate]; show s.size + (cap - s.size) = cap; omega
 have hssz : s.data.toList.length = s.size := Array.length_toList
 let w' : World := { w with heap := w.heap.push (.cells cs e (cap, cap + 1)), drawn := w.drawn + 1 }
 have st : Step w ρ R' w' ρ R' := Step.old hm (fun b hb => zty (x := .cells cs e (cap, cap + 1)) hb) (by simp [w']) rfl rfl
 have hv : RV w' ρ R' (.g (.b (.ro s.size (s.data.toList.map fun b => .v (.int .u8 b.toNat)) false true))) (.slice (some ⟨w.heap.size, 0, none⟩) s.size cap) := by
  refine ⟨_, _, rfl, hge, (fun h => by cases h), .inr ⟨_, rfl, ⟨⟨by simp [w'], fun ⟨r, rt, o, h, hρ⟩ => ?_⟩, fun _ h => ?_⟩, fun i c hc => ?_⟩⟩
  ·exact Nat.lt_irrefl _ (hm.own_lt ⟨r, rt, o, h, hρ⟩)
  ·exact Nat.lt_irrefl _ (hm.outlt _ h)
  ·rw [qn] at hc
   obtain ⟨b, hb, rfl⟩ := qf.1 hc
   have hlt : i < s.size := by rw [← hssz]; exact (qh.1 hb).1
   refine ⟨.int .u8 b.toNat, ?_, rfl⟩
   rw [zoy, Nat.zero_add]
   have h1 : w'.heap[w.heap.size]? = some (.cells cs e (cap, cap + 1)) := Array.getElem?_push_size
   simp only [World.cell?, h1, Option.isSome_none, qj, if_false, cs]
   rw [Array.getElem?_append_left (by simp only [Array.size_map]; exact hlt), Array.getElem?_map, ← Array.getElem?_toList, hb]
   rfl
 refine ⟨_, w', ρ, .inl ?_, st, hv⟩
 rw [zax _ o _ ho]
 have hq : (Question.appendCap s.size 0 e).forced = false := rfl
 have hsh : (w.drew.alloc (.cells cs e)).shape? w.heap.size = some (e, cap) := by
  have : (w.drew.alloc (.cells cs e)).heap[w.heap.size]? = some (.cells cs e) := zfe w.drew _
  simp only [World.shape?, this, hcs]
 have hfz : (w.drew.alloc (.cells cs e)).freeze ⟨w.heap.size, cap, none⟩ 1 = w' := by
  simp only [World.freeze, w']
  rw [if_neg (by omega)]
  show World.mk _ _ _ _ _ = World.mk _ _ _ _ _
  congr 1
  apply Array.ext_getElem?
  intro j
  rw [Array.getElem?_modify]
  by_cases hj : w.heap.size = j
  ·subst hj
   rw [if_pos rfl]
   have h1 : (w.drew.alloc (.cells cs e)).heap[w.heap.size]? = some (.cells cs e) := zfe w.drew _
   rw [h1, Array.getElem?_push_size]
   rfl
  ·rw [if_neg hj]
   show (w.heap.push _)[j]? = (w.heap.push _)[j]?
   rw [Array.getElem?_push, Array.getElem?_push, if_neg (Ne.symm hj), if_neg (Ne.symm hj)]
 have hcut : (Question.appendCap s.size 0 e).cut (w.tape w.drawn (.appendCap s.size 0 e)) = cap := hcap
 simp only [execOp, convert, Sem.run_bind, run_underlying h1, run_underlying h2, run_underlying he, Result.andThen_ok, hxv, Conv.stringToBytes, choose, Sem.run, hq, hcut, qj, if_false, zg9]
 have hmk : (markStringish ⟨w.heap.size, 0, none⟩).run P (w.drew.alloc (.cells cs e)) = .ok () w' := by
  have h0 : (shape w.heap.size).run P (w.drew.alloc (.cells cs e)) = .ok (some (e, cap)) (w.drew.alloc (.cells cs e)) := by simp only [shape, Sem.run, hsh]
  simp only [markStringish, Sem.run_bind, h0, Result.andThen_ok]
  show Result.ok () _ = _
  rw [hfz]
 have hmk' := hmk
 simp only [World.alloc, World.drew] at hmk'
 simp only [cs] at hmk'
 rw [hmk']
 rfl
theorem zo2 : ∀ {l : List B} {bs : List UInt8}, za9 l = some bs → ∃ ns : List Int, l = ns.map (fun n => B.v (.int .u8 n)) ∧ bs = ns.map fun n => UInt8.ofNat n.toNat
 | [], bs, h => by simp only [za9, qc] at h; subst h; exact ⟨[], rfl, rfl⟩
 | x :: l, bs, h => by
  cases x with
  | v z =>
   cases z with
   | int k n =>
    cases k <;> simp only [za9] at h <;> try cases h
    obtain ⟨bs', hb, rfl⟩ := qf.1 h
    obtain ⟨ns, h1, h2⟩ := zo2 hb
    exact ⟨n :: ns, by simp [h1], by simp [h2]⟩
   | _ => simp [za9] at h
  | _ => simp [za9] at h
theorem zv4 : ∀ (ns : List Int) (s : ByteArray), ns.foldl (fun r n => r.push (UInt8.ofNat n.toNat)) s = ⟨s.data ++ (ns.map fun n => UInt8.ofNat n.toNat).toArray⟩
 | [], s => by cases s; simp
 | n :: ns, s => by
  simp only [List.foldl_cons, zv4 ns, qu]
  cases s with
  | mk d => simp [ByteArray.push]
theorem zsw : ∀ l : List Value, zkz (l.map B.v) = some l
 | [] => rfl
 | x :: l => by simp only [qu, zkz, B.conc, zsw l]
theorem z4e {o : Oper} {ev : Operand → Option V} {a : Act} {v : V} {R' : Tab} {src dst e : TypeId} {x : Operand} {y : B} (hm : Mem w ρ R) (hev : EvOK w ρ R ev a) (ho : o.op = .convert src dst x)
  (h1 : P.underlying src = some (.slice e)) (h2 : P.underlying dst = some .string) (he : P.underlying e = some (.int .u8)) (hx : ev x = some (.g (.b y)))
  (h : ((content y).bind fun l => match za9 l, lenB (some (.g (.b y))) with
   | some bs, some n => if bs.length = n then (.ret (.g (.b (.v (.string ⟨bs.toArray⟩)))) : Pr V) else .fail
   | _, _ => .fail).run R = some (v, R')) :
  ∃ y w' ρ', zdd P o a w y w' ∧ Step w ρ R w' ρ' R' ∧ RV w' ρ' R' v y := by
 obtain ⟨l, R1, hc, h3⟩ := Pr.bind_run h
 clear h
 obtain ⟨rfl, ad, n, cap, hv, hn, hk, hl⟩ := zgt hm hc (hev x _ hx)
 have hlb : lenB (some (.g (.b y))) = some n := by
  rcases hk with ⟨cs, ex, lo, rfl⟩ | ⟨r, g, off, rfl⟩ <;> rfl
 rw [hlb] at h3
 cases hb : za9 l with
 | none => rw [hb] at h3; exact Pr.fail_run h3
 | some bs =>
  rw [hb] at h3
  simp only [] at h3
  split at h3
  ·rename_i hbl
   obtain ⟨rfl, rfl⟩ := Pr.ret_run h3
   obtain ⟨ns, hl1, rfl⟩ := zo2 hb
   have hnl : ns.length = n := by simpa using hbl
   have hll : l.length = n := by rw [hl1]; simpa using hnl
   have hres : ∀ s : ByteArray, (execOp a.eval o).run P w = .ok (.value (.string s)) w → s = ⟨(ns.map fun n => UInt8.ofNat n.toNat).toArray⟩ → ∃ y w' ρ', zdd P o a w y w' ∧ Step w ρ R' w' ρ' R' ∧ RV w' ρ' R' (.g (.b (.v (.string ⟨(ns.map fun n => UInt8.ofNat n.toNat).toArray⟩)))) y := by
    rintro s hs rfl
    exact ⟨_, w, ρ, .inl hs, .refl hm, rfl⟩
   have hconv : (convert src dst (.slice ad n cap)).run P w = (Conv.bytesToString (.slice ad n cap)).run P w := by
    simp only [convert, Sem.run_bind, run_underlying h1, run_underlying h2, run_underlying he, Result.andThen_ok]
   rcases hl with rfl | ⟨ad', rfl, hcells⟩
   ·have h0 : ns = [] := by cases ns with
     | nil => rfl
     | cons _ _ => simp at hl1
    subst h0
    refine hres ByteArray.empty ?_ rfl
    rw [zax _ o _ ho]
    simp only [execOp, hv, Sem.run_bind, hconv]
    have hn0 : n = 0 := by simpa using hll.symm
    subst hn0
    cases ad with
    | none => simp [Conv.bytesToString]
    | some ad => rw [run_bytesToString w ad 0 cap [] (by simp [loadCells, loadCellsFrom])]; rfl
   ·obtain ⟨ys, h5, h4⟩ := hcells.list
    have hys : ys = ns.map (Value.int .u8) := zapl (xs := l) (by
     rw [hl1, show (ns.map fun n => B.v (.int .u8 n)) = (ns.map (Value.int .u8)).map B.v by simp]
     exact zsw _) h5
    refine hres (ns.foldl (fun r n => r.push (UInt8.ofNat n.toNat)) ByteArray.empty) ?_ ?_
    ·rw [zax _ o _ ho]
     simp only [execOp, hv, Sem.run_bind, hconv]
     rw [run_bytesToString w ad' n cap ns (by
      rw [← hys, ← hll, h5.1]; exact run_loadCells_list w ad' ys h4)]
     rfl
    ·rw [zv4]
     show ByteArray.mk (#[] ++ _) = _
     rw [Array.empty_append]
  ·exact Pr.fail_run h3
end
end Go.Gm
