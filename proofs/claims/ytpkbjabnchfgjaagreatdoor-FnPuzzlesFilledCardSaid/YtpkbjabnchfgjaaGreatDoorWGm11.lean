import Derived.Test.YtpkbjabnchfgjaaGreatDoorWGm10
import Derived.Laws.StructEq
namespace Go.Gm
set_option linter.unusedSimpArgs false
set_option linter.unusedVariables false
set_option linter.unnecessarySimpa false
section
variable {P : Program} {w : World} {ρ : Rho} {R : Tab}
theorem zhr {o : Oper} {ev : Operand → Option V} {a : Act} {v : V} {R' : Tab} (hm : Mem w ρ R) (hev : EvOK w ρ R ev a) (h : (Pr.ofOpt (zc6 P o ev)).run R = some (v, R')) :
  ∃ y w' ρ', zdd P o a w y w' ∧ Step w ρ R w' ρ' R' ∧ RV w' ρ' R' v y := by
 obtain ⟨hv, rfl⟩ := Pr.ofOpt_run h
 obtain ⟨y, h1, h2⟩ := zwy (P := P) (w := w) hv hev
 exact ⟨y, w, ρ, .inl h1, .refl hm, h2⟩
theorem zauz {d : Nat} {t : TypeId} {a b : Value} {r : Bool} (ha : zf1 P t a = true) (hb : zf1 P t b = true) (h : z4y a b = some r) : (Op.equalIn (d + 1) t a b).run P w = .ok r w := by
 unfold zf1 at ha
 split at ha
 ·rename_i k k' n hu
  simp only [beq_iff_eq] at ha; subst ha
  cases b <;> simp [z4y] at h
  rename_i k2 m
  obtain ⟨rfl, rfl⟩ := h
  simp [Op.equalIn, run_underlying hu]
 ·rename_i x hu
  cases b <;> simp [z4y] at h
  subst h
  simp [Op.equalIn, run_underlying hu]
 ·rename_i x hu
  cases b <;> simp [z4y] at h
  subst h
  simp [Op.equalIn, run_underlying hu]
 ·cases ha
theorem zt7 {t : TypeId} {x : Value} (h : zf1 P t x = true) : (isAgg t).run P w = .ok false w := by
 unfold zf1 at h
 split at h <;> first
  | (rename_i hu; simp [isAgg, run_underlying hu])
  | cases h
theorem zlu {d : Nat} {xs ys : List B} {as bs : List Value} (hx : RBs w ρ R xs as) (hy : RBs w ρ R ys bs) : ∀ {fs : List Field} {r : Bool}, zel P xs ys fs = some r → (Op.eqFields (d + 1) as.toArray bs.toArray fs).run P w = .ok r w
 | [], r, h => by simp only [zel, qc] at h; subst h; rfl
 | f :: fs, r, h => by
  simp only [zel] at h
  split at h
  ·rename_i a b hca hcb
   split at h
   ·rename_i hc
    obtain ⟨hn, h1, h2⟩ := hc
    split at h
    ·rename_i t u ht hu
     cases h
     obtain ⟨xa, hxa, hca⟩ := qx.1 hca
     obtain ⟨xb, hxb, hcb⟩ := qx.1 hcb
     have get : ∀ {zs : List B} {cs : List Value} {x : B} {v : Value}, RBs w ρ R zs cs → zs[f.offset]? = some x → x.conc = some v → cs.toArray[f.offset]? = some v := by
      intro zs cs x v hz hzx hv
      have hlt : f.offset < cs.length := by rw [← hz.1]; exact (qh.1 hzx).1
      have := za4t hv (hz.2 _ x _ hzx (qb hlt))
      simp [hlt, this]
     have pa : (part f.type as.toArray f.offset).run P w = .ok a w := by
      simp only [part, Sem.run_bind, zt7 h1, Result.andThen_ok, qj, if_false, get hx hxa hca]; rfl
     have pb : (part f.type bs.toArray f.offset).run P w = .ok b w := by
      simp only [part, Sem.run_bind, zt7 h2, Result.andThen_ok, qj, if_false, get hy hxb hcb]; rfl
     have ih := zlu hx hy (d := d) hu
     rw [Op.eqFields]
     simp only [if_pos hn, Sem.run_bind, pa, pb, Result.andThen_ok, zauz h1 h2 ht]
     cases t
     ·simp
     ·simpa using ih
    ·cases h
   ·cases h
  ·cases h
theorem zbem {o : Oper} {ev : Operand → Option V} {a : Act} {v : V} {R' : Tab} {op : BinOp} {t m : TypeId} {x y : Operand} (hm : Mem w ρ R) (hev : EvOK w ρ R ev a) (ho : o.op = .binOp op t x y m)
  (h : (zih P o ev op t x y).run R = some (v, R')) : ∃ y w' ρ', zdd P o a w y w' ∧ Step w ρ R w' ρ' R' ∧ RV w' ρ' R' v y := by
 have core : ∀ {fs : Array Field} {xs ys : List B} {r : Bool}, ev x = some (.g (.ag xs)) → ev y = some (.g (.ag ys)) → P.underlying t = some (.struct fs) → P.stoodInHeld t = false → P.eqGuardType P.depth t = false → zel P xs ys fs.toList = some r →
   ∃ as bs, a.eval x = .agg as ∧ a.eval y = .agg bs ∧ (Op.equal t (.agg as) (.agg bs)).run P w = .ok r w := by
  intro fs xs ys r hx hy hu hs hg he
  obtain ⟨as, ha, hxs⟩ := hev x _ hx
  obtain ⟨bs, hb, hys⟩ := hev y _ hy
  refine ⟨as, bs, ha, hb, ?_⟩
  have hf : P.fieldsOf t = fs := by simp [Program.fieldsOf, hu]
  have h1 : Op.maxDepth = 9999 + 1 := rfl
  show (Op.equalIn Op.maxDepth t (.agg as) (.agg bs)).run P w = .ok r w
  rw [h1, run_equalIn_struct (P := P) w 9999 t as bs (by rw [hf]; exact hu) hs, hf]
  have := zlu (P := P) (d := 9998) hxs hys he
  simpa using this
 unfold zih at h
 split at h
 ·rename_i xs ys hx hy
  split at h
  ·rename_i fs hu
   split at h
   ·rename_i hc
    split at h
    ·rename_i r he
     obtain ⟨rfl, rfl⟩ := Pr.ret_run h
     obtain ⟨as, bs, ha, hb, hr⟩ := core hx hy hu hc.1 hc.2 he
     refine ⟨.bool r, w, ρ, .inl ?_, .refl hm, rfl⟩
     rw [zax _ o _ ho]
     simp [execOp, eqGuard, ha, hb, binOp, hr, hc.2]
    ·exact Pr.fail_run h
   ·exact Pr.fail_run h
  ·exact Pr.fail_run h
 ·rename_i xs ys hx hy
  split at h
  ·rename_i fs hu
   split at h
   ·rename_i hc
    split at h
    ·rename_i r he
     obtain ⟨rfl, rfl⟩ := Pr.ret_run h
     obtain ⟨as, bs, ha, hb, hr⟩ := core hx hy hu hc.1 hc.2 he
     refine ⟨.bool (!r), w, ρ, .inl ?_, .refl hm, rfl⟩
     rw [zax _ o _ ho]
     simp [execOp, eqGuard, ha, hb, binOp, hr, hc.2]
    ·exact Pr.fail_run h
   ·exact Pr.fail_run h
  ·exact Pr.fail_run h
 ·exact zhr hm hev h
theorem zaco (hm : Mem w ρ R) {r g off len at' : Nat} {rt : Root} {y : Value} (hr : R[r]? = some (.live rt)) (hg : rt.g = g) (hy : RB w ρ R (.rf r g off len) y) (hlen : 0 < len) {p : List B} {vs : List Value} (hp : RBs w ρ R p vs) (h1 : ∀ v ∈ vs, v.oneCell' = true)
  (hat : at' = off * rt.es) (hle : at' + p.length ≤ rt.cells.length) (hc : ∀ x ∈ p, x.closed = true) :
  ∃ b o cap w' ρ', y = .slice (some ⟨b, o, none⟩) len cap ∧ (storeCells ⟨b, o, none⟩ vs 0).run P w = .ok () w' ∧ Step w ρ R w' ρ' (R.set r (.live { rt with cells := zg3 rt.cells at' p })) := by
 obtain ⟨_, e, he, _, hlv⟩ := hy
 rw [hr] at he; cases he
 obtain ⟨ad, cap, rfl, hlc, hpos, hrow, hcl, hcap⟩ := (hlv rt rfl).2 hg
 rcases hcap with h0 | ⟨b, o, hρ, rfl, hbz⟩
 ·omega
 have hroot := hm.roots r rt hr
 have hr1 := hroot.1
 rw [hρ] at hr1
 obtain ⟨c, T, fr, hb, hfz, hsz, hcells⟩ := hr1
 have hvl : vs.length = p.length := hp.1.symm
 refine ⟨b, o + off * rt.es, cap, _, upd ρ r (some (b, o)), rfl, zci vs 0 c w hb hfz (by rw [hvl, ← hat]; omega) h1, ?_⟩
 refine Step.put hm (rt' := { rt with cells := zg3 rt.cells at' p }) hr hρ hb (o' := o) (by simp) (qi _) (fun _ => ⟨rfl, rfl, rfl, by simp only [zg3, ql, kp, kb]; omega⟩) (by simp only [zg3, ql, kp, kb]; omega) (fun i x hx => ?_) (fun _ x hx => ?_)
 ·simp only [zg3] at hx
  rw [zon hle] at hx
  rw [Nat.add_zero, zk5 _ _ _ _ (by rw [hvl, ← hat]; omega), hvl, ← hat]
  split at hx
  ·rename_i hin
   obtain ⟨z, hz, hzr⟩ := hp.get hx
   rw [if_pos (by omega)]
   exact ⟨z, by rw [show o + i - (o + at') = i - at' by omega]; exact hz, hzr⟩
  ·rename_i hin
   rw [if_neg (by omega)]
   exact hcells i x hx
 ·simp only [zg3] at hx
  rcases kg.1 hx with hx | hx
  ·exact hroot.2 hrow x (List.mem_of_mem_take hx)
  ·rcases kg.1 hx with hx | hx
   ·exact hc x hx
   ·exact hroot.2 hrow x (List.mem_of_mem_drop hx)
theorem zae4 {α : Type} (n : Nat) (l : List α) : (List.replicate n l).flatten.length = n * l.length := by
 induction n with
 | zero => simp
 | succ n ih => rw [List.replicate_succ, List.flatten_cons, ql, ih, Nat.succ_mul, Nat.add_comm]
theorem zat9 {o : Oper} {ev : Operand → Option V} {a : Act} {v : V} {R' : Tab} {args : Array Operand} {argTypes : Array TypeId} {x : Operand} {t : TypeId} (hm : Mem w ρ R) (hev : EvOK w ρ R ev a)
  (ho : o.op = .call { callee := .builtin .clear, args, argTypes }) (ha : args.toList = [x]) (hat : argTypes.toList = [t]) (h : (zli P t (ev x)).run R = some (v, R')) :
  ∃ y w' ρ', zdd P o a w y w' ∧ Step w ρ R w' ρ' R' ∧ RV w' ρ' R' v y := by
 unfold zli at h
 split at h
 ·rename_i e r g off len he hx
  split at h
  ·rename_i z hz
   obtain ⟨rt, hrt, h⟩ := Pr.get_run h
   split at h
   ·rename_i hc
    obtain ⟨hg, hrow, hzl, hzc, hlen, hes, hle⟩ := hc
    obtain ⟨_, hrt', h⟩ := Pr.put_run h
    obtain ⟨rfl, rfl⟩ := Pr.ret_run h
    obtain ⟨i, zv, hi, hzv, rfl⟩ := zgp hz
    have hzs : zv.cells.size = rt.es := by rw [← hzl]; simp
    have hp := zsc (w := w) (ρ := ρ) (R := R) (n := len) hzs hes
    have hpl : (List.replicate len (zv.cells.toList.map zsh)).flatten.length = len * rt.es := by rw [zae4, hzl]
    have hcell := zln hp (qt.2 fun y hy => by
     obtain ⟨l, hl, hy⟩ := List.mem_flatten.1 hy
     obtain ⟨_, rfl⟩ := List.mem_replicate.1 hl
     exact qt.1 hzc y hy)
    obtain ⟨b, o', cap, w', ρ', hv, hst, st⟩ := zaco (P := P) hm hrt hg (hev x _ hx) hlen hp hcell rfl (by rw [hpl, ← Nat.add_mul]; exact hle) (fun y hy => by
     obtain ⟨l, hl, hy⟩ := List.mem_flatten.1 hy
     obtain ⟨_, rfl⟩ := List.mem_replicate.1 hl
     obtain ⟨y, _, rfl⟩ := List.mem_map.1 hy
     exact zjz y)
    refine ⟨.tuple #[], w', ρ', .inl ?_, st, trivial⟩
    rw [zax _ o _ ho]
    have e1 : args = #[x] := Array.toList_inj.1 ha
    have e2 : argTypes = #[t] := Array.toList_inj.1 hat
    subst e1 e2
    obtain ⟨k, rfl⟩ : ∃ k, len = k + 1 := ⟨len - 1, by omega⟩
    have hzk : Builtin.zeroCells zv.cells (k + 1) = (Array.range ((k + 1) * rt.es)).map (zv.cells[· % zv.cells.size]!) := by unfold Builtin.zeroCells; rw [hzs]
    simp only [execOp, resolve, Sem.run_bind, Sem.run_pure, Result.andThen_ok, invoke, builtin, List.map_toArray, qu, List.map_nil, hv, Builtin.clear_]
    have hst' : (storeCells ⟨b, o', none⟩ (List.map (fun x => zv.cells[x % zv.cells.size]!) (List.range ((k + 1) * rt.es))) 0).run P w = .ok () w' := by
     rw [← hst, Array.toList_map, Array.toList_range]
    simp [run_underlying (zcj he), zme hi hzv, hzk, hst']
   ·exact Pr.fail_run h
  ·exact Pr.fail_run h
 ·exact Pr.fail_run h
theorem za11 {o : Oper} {ev : Operand → Option V} {a : Act} {v : V} {R' : Tab} {args : Array Operand} {argTypes : Array TypeId} {d s : Operand} {t tx : TypeId} (hm : Mem w ρ R) (hev : EvOK w ρ R ev a)
  (ho : o.op = .call { callee := .builtin .copy, args, argTypes }) (ha : args.toList = [d, s]) (hat : argTypes.toList = [t, tx]) (h : (zsf P t (ev d) (ev s)).run R = some (v, R')) :
  ∃ y w' ρ', zdd P o a w y w' ∧ Step w ρ R w' ρ' R' ∧ RV w' ρ' R' v y := by
 unfold zsf at h
 split at h
 ·rename_i e r g off len sb he hd hs
  split at h
  ·rename_i m hmn
   obtain ⟨l, R1, hc, h1⟩ := Pr.bind_run h
   clear h
   obtain ⟨rfl, ax, n', cx, hxv, hnx, hk, hl⟩ := zgt hm hc (hev s _ hs)
   have hnn : n' = m := by
    rcases hk with ⟨cs, ex, lo, rfl⟩ | ⟨r, g, off, rfl⟩ <;> simpa [lenB] using hmn
   subst hnn
   obtain ⟨rt, hrt, h⟩ := Pr.get_run h1
   split at h
   ·rename_i hcond
    obtain ⟨hg, hrow, hes, hmin, hpos, hll, hcl, hcell, hle⟩ := hcond
    obtain ⟨_, hrt', h⟩ := Pr.put_run h
    obtain ⟨rfl, rfl⟩ := Pr.ret_run h
    have hlen : 0 < len := by omega
    have hml : min n' len * rt.es ≤ n' * rt.es := ki _ (Nat.min_le_left ..)
    have hml2 : min n' len * rt.es ≤ len * rt.es := ki _ (Nat.min_le_right ..)
    have htl : (l.take (min n' len * rt.es)).length = min n' len * rt.es := by rw [kp, hll]; omega
    have hlt : l.take (min n' len * rt.es) = [] ∨ ∃ ad, ax = some ad ∧ Cells w ρ R1 ad (l.take (min n' len * rt.es)) := by
     rcases hl with rfl | ⟨ad, rfl, hcs⟩
     ·exact .inl List.take_nil
     ·refine .inr ⟨ad, rfl, fun i x hx => ?_⟩
      rw [List.getElem?_take] at hx
      split at hx
      ·exact hcs i x hx
      ·cases hx
    obtain ⟨vs, hvs, hf1, _⟩ := zem (P := P) (n := min n' len) (cap := cx) (size := rt.es) htl hlt
    have e0 : off * rt.es + len * rt.es = (off + len) * rt.es := (Nat.add_mul ..).symm
    obtain ⟨b, o', cap, w', ρ', hv, hst, st⟩ := zaco (P := P) hm hrt hg (hev d _ hd) hlen hvs (zln hvs (qt.2 fun x hx => qt.1 hcell x (List.mem_of_mem_take hx))) rfl (by rw [htl]; omega) (fun y hy => qt.1 hcl y (List.mem_of_mem_take hy))
    refine ⟨.int .i64 (min n' len : Nat), w', ρ', .inl ?_, st, rfl⟩
    rw [zax _ o _ ho]
    have e1 : args = #[d, s] := Array.toList_inj.1 ha
    have e2 : argTypes = #[t, tx] := Array.toList_inj.1 hat
    subst e1 e2
    have hinfo : (P.info? e).isSome = true := zfc (by omega)
    have hfc : ∀ c, (Builtin.firstCells rt.es (min n' len) (.slice ax n' c)).run P w = (Builtin.firstCells rt.es (min n' len) (.slice ax (min n' len) cx)).run P w := by
     intro c
     cases ax <;> rfl
    have hm' : Nat.min n' len = min n' len := rfl
    have hz : (sizeOf e).run P w = .ok rt.es w := by rw [hes]; exact zbr hinfo
    have hcp : (Builtin.copy_ #[t, tx] o.type #[.slice (some ⟨b, o', none⟩) len cap, .slice ax n' cx]).run P w = .ok (.int .i64 (min n' len : Nat)) w' := by
     have h1 := hfc cx
     rw [hf1] at h1
     simp [Builtin.copy_, run_underlying (zcj he), Builtin.lenOf, hz, hm', h1, hst, goInt]
    simp only [execOp, resolve, Sem.run_bind, Sem.run_pure, Result.andThen_ok, invoke, builtin, List.map_toArray, qu, List.map_nil, hv, hxv, hcp]
   ·exact Pr.fail_run h
  ·exact Pr.fail_run h
 ·exact Pr.fail_run h
theorem zbel {o : Oper} {ev : Operand → Option V} {a : Act} {base : Nat} {v : V} {R' : Tab} (hm : Mem w ρ R) (hev : EvOK w ρ R ev a) (h : (act P o ev base).run R = some (v, R')) :
  ∃ y w' ρ', zdd P o a w y w' ∧ Step w ρ R w' ρ' R' ∧ RV w' ρ' R' v y := by
 obtain ⟨dst, op, type, pos, after, guard⟩ := o
 cases op <;> simp only [act] at h
 case move x => exact zacn hm hev (fun w => rfl) h
 case assign x => exact zacn hm hev (fun w => rfl) h
 case pick c x y =>
  split at h
  ·rename_i t hc
   obtain ⟨hv, rfl⟩ := Pr.ofOpt_run h
   have hcv : a.eval c = .bool t := hev c _ hc
   refine ⟨if t then a.eval x else a.eval y, w, ρ, .inl ?_, .refl hm, ?_⟩
   ·simp only [execOp, hcv, asBool, Sem.run_bind, Sem.run_pure, Result.andThen_ok]
   ·cases t
    ·exact hev y v (by simpa using hv)
    ·exact hev x v (by simpa using hv)
  ·exact Pr.fail_run h
 case alloc t =>
  split at h
  ·rename_i cs hz; exact zat6 hm rfl hz h
  ·exact Pr.fail_run h
 case box t x =>
  split at h
  ·rename_i cs hx; exact zben hm hev rfl hx h
  ·exact Pr.fail_run h
 case build t parts =>
  split at h
  ·rename_i fields z ps hu hz hps
   split at h
   ·rename_i hall
    split at h
    ·rename_i cs hf
     obtain ⟨rfl, rfl⟩ := Pr.ret_run h
     obtain ⟨y, h1, h2⟩ := zat7 (o := ⟨dst, .build t parts, type, pos, after, guard⟩) (base := base) hm hev rfl hu hz hps hf (fun f hf => qt.1 hall f (Array.mem_toList_iff.2 hf))
     exact ⟨y, w, ρ, h1, .refl hm, h2⟩
    ·exact Pr.fail_run h
   ·exact Pr.fail_run h
  ·exact Pr.fail_run h
 case buildSlice t n parts =>
  split at h
  ·rename_i e ps he hps
   split at h
   ·rename_i z hz
    split at h
    ·rename_i hc; exact zu9 hm hev rfl he hps hz hc h
    ·exact Pr.fail_run h
   ·exact Pr.fail_run h
  ·exact Pr.fail_run h
 case load t p => exact za12 hm hev rfl h
 case store t p x => exact zaug hm hev rfl h
 case nilCheck x =>
  split at h
  ·rename_i r g off hx
   obtain ⟨rfl, rfl⟩ := Pr.ret_run h
   have hr : RB w ρ _ (.pt r g off) (a.eval x) := hev x _ hx
   obtain ⟨ad, hv⟩ := hr.1
   exact ⟨_, w, ρ, .inl (zg0 rfl rfl (.inl ⟨ad, hv⟩)), .refl hm, hr⟩
  ·rename_i cs lo hx
   obtain ⟨rfl, rfl⟩ := Pr.ret_run h
   have hr : RB w ρ _ (.pr cs lo) (a.eval x) := hev x _ hx
   obtain ⟨ad, hv, hs⟩ := hr
   exact ⟨_, w, ρ, .inl (zg0 rfl rfl (.inl ⟨ad, hv⟩)), .refl hm, ad, hv, hs⟩
  ·rename_i f caps hx
   obtain ⟨rfl, rfl⟩ := Pr.ret_run h
   obtain ⟨ys, hv, hs⟩ := hev x _ hx
   exact ⟨_, w, ρ, .inl (zg0 rfl rfl (.inr ⟨f, #[], ys, hv⟩)), .refl hm, ys, hv, hs⟩
  ·rename_i f ps hx
   obtain ⟨rfl, rfl⟩ := Pr.ret_run h
   obtain ⟨ys, hv, hs⟩ := hev x _ hx
   exact ⟨_, w, ρ, .inl (zg0 rfl rfl (.inr ⟨f, #[], ys, hv⟩)), .refl hm, ys, hv, hs⟩
  ·exact zhr hm hev h
 case binOp op t x y m => exact zbem hm hev rfl h
 case unOp => exact zhr hm hev h
 case index => exact zhr hm hev h
 case convert src dst x =>
  unfold zfa at h
  split at h
  ·rename_i e s h1 h2 hx
   split at h
   ·rename_i he
    split at h
    ·exact z4m hm hev rfl h1 h2 he hx h
    ·exact Pr.fail_run h
   ·exact Pr.fail_run h
  ·rename_i e y h1 h2 hx
   split at h
   ·rename_i he; exact z4e hm hev rfl h1 h2 he hx h
   ·exact Pr.fail_run h
  ·exact zhr hm hev h
 case makeFunc fn first captured =>
  cases fn with
  | func f =>
   simp only at h
   split at h
   ·rename_i hc
    split at h
    ·rename_i caps hcaps
     obtain ⟨rfl, rfl⟩ := Pr.ret_run h
     obtain ⟨z, h1, h2⟩ := z4j (o := ⟨dst, .makeFunc (.func f) first captured, type, pos, after, guard⟩) (P := P) (w := w) hev rfl hc.1 hcaps
     exact ⟨z, w, ρ, .inl h1, .refl hm, h2⟩
    ·exact Pr.fail_run h
   ·exact zhr hm hev h
  | _ => exact Pr.fail_run h
 case makeSlice t l c => exact zz3 hm hev rfl h
 case slice t x lo hi mx => exact zauf hm hev rfl h
 case fieldAddr s x f => exact zz0 hm hev rfl h
 case indexAddr t x i => exact zz2 hm hev rfl h
 case extract x i =>
  split at h
  ·rename_i xs hx
   split at h
   ·rename_i y hy
    obtain ⟨rfl, rfl⟩ := Pr.ret_run h
    obtain ⟨z, h1, h2⟩ := z7v (o := ⟨dst, .extract x i, type, pos, after, guard⟩) (P := P) (w := w) hev rfl hx hy
    exact ⟨z, w, ρ, .inl h1, .refl hm, h2⟩
   ·exact Pr.fail_run h
  ·exact Pr.fail_run h
 case call c =>
  obtain ⟨callee, args, argTypes⟩ := c
  cases callee with
  | builtin b =>
   cases b <;> simp only at h
   case len =>
    split at h
    ·rename_i x e hx he
     split at h
     ·rename_i n hn
      obtain ⟨rfl, rfl⟩ := Pr.ret_run h
      exact ⟨_, w, ρ, .inl (zbeo hev rfl hx he hn), .refl hm, rfl⟩
     ·exact Pr.fail_run h
    ·exact zhr hm hev h
   case append =>
    split at h
    ·rename_i s x t tx ha hat; exact zae9 hm hev rfl ha hat h
    ·exact Pr.fail_run h
   case clear =>
    split at h
    ·rename_i x t ha hat; exact zat9 hm hev rfl ha hat h
    ·exact Pr.fail_run h
   case copy =>
    split at h
    ·rename_i d s t tx ha hat; exact za11 hm hev rfl ha hat h
    ·exact Pr.fail_run h
   case min => exact zhr hm hev h
   case max => exact zhr hm hev h
   all_goals exact Pr.fail_run h
  | value f => exact Pr.fail_run h
  | invoke r n => exact Pr.fail_run h
 all_goals exact Pr.fail_run h
end
end Go.Gm
