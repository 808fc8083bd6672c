import Derived.Test.YtpkbjabnchfgjaaGreatDoorWGm17
namespace Go.Gm
set_option linter.unusedVariables false
inductive T (α : Type) : Type 1 where
 | ret (a : α)
 | fail
 | test (c : Bool) (t e : T α)
 | sub {β : Type} (x : Option β) (f : β → T α)
namespace T
def bind {α β : Type} : T α → (α → T β) → T β
 | .ret a, f => f a
 | .fail, _ => .fail
 | .test c t e, f => .test c (t.bind f) (e.bind f)
 | .sub x k, f => .sub x fun b => (k b).bind f
def run {α : Type} : T α → Option α
 | .ret a => some a
 | .fail => none
 | .test c t e => if c then t.run else e.run
 | .sub x k => x.bind fun b => (k b).run
def map {α β : Type} (f : α → β) (t : T α) : T β := t.bind fun a => .ret (f a)
def ofOpt {α : Type} : Option α → T α
 | some a => .ret a
 | none => .fail
end T
inductive ETy where
 | int (k : IntKind)
 | bool
 | str
 | pair (a b : ETy)
 | list (lo : Bool) (e : ETy) deriving DecidableEq
abbrev den : ETy → Type
 | .int _ => Int
 | .bool => Bool
 | .str => List UInt8
 | .pair a b => den a × den b
 | .list lo e => List (den e)
def sz : ETy → Nat
 | .pair a b => sz a + sz b
 | _ => 1
def ETy.plain : ETy → Bool
 | .pair a b => a.plain && b.plain
 | .list _ _ => false
 | _ => true
def ETy.ok : ETy → Bool
 | .pair a b => a.ok && b.ok
 | .list lo e => e.plain
 | _ => true
def ETy.back : ETy → Bool
 | .pair a b => a.back && b.back
 | .list lo e => lo && e.back
 | _ => true
def encV : (e : ETy) → den e → List Value
 | .int k, z => [.int k z]
 | .bool, t => [.bool t]
 | .str, l => [.string ⟨l.toArray⟩]
 | .pair a b, x => encV a x.1 ++ encV b x.2
 | .list _ _, _ => []
def encC : (e : ETy) → den e → List C
 | .int k, z => [.v (.int k z)]
 | .bool, t => [.v (.bool t)]
 | .str, l => [.v (.string ⟨l.toArray⟩)]
 | .pair a b, x => encC a x.1 ++ encC b x.2
 | .list lo e, xs => [.sl lo xs.length (xs.flatMap (encV e))]
def encB : (e : ETy) → den e → List B
 | .int k, z => [.v (.int k z)]
 | .bool, t => [.v (.bool t)]
 | .str, l => [.v (.string ⟨l.toArray⟩)]
 | .pair a b, x => encB a x.1 ++ encB b x.2
 | .list lo e, xs => [.ro xs.length (xs.flatMap (encC e)) false lo]
inductive TB where
 | int (k : IntKind) (z : Int)
 | bl (t : Bool)
 | bool (t : Bool)
 | str (l : List UInt8)
 | fn (f : FuncId)
 | ro (e : ETy) (xs : List (den e)) (ex lo : Bool)
 | rf (r g off len : Nat)
 | pe (r g : Nat) (e : ETy) (i fo : Nat)
 | pf (r g fo : Nat)
 | pr (e : ETy) (xs : List (den e)) (i fo : Nat) (lo : Bool)
 | clo (f : FuncId) (ps : List (Nat × Nat × Nat))
 | nf
 | skip
 | dead
inductive TG where
 | b (x : TB)
 | ag (xs : List TB)
inductive TV where
 | g (x : TG)
 | cl (fn : FuncId) (caps : List TG)
 | tp (xs : List TG)
inductive TRoot where
 | row (g : Nat) (e : ETy) (xs : List (den e))
 | rcd (g : Nat) (cs : List TB)
inductive TEnt where
 | fresh
 | dead
 | live (rt : TRoot)
abbrev TTab := List TEnt
def TB.raw : TB → B
 | .int k z => .v (.int k z)
 | .bl t => .v (.bool t)
 | .bool t => .v (.bool t)
 | .str l => .v (.string ⟨l.toArray⟩)
 | .fn f => .v (.func (.func f) #[] #[])
 | .ro e xs ex lo => .ro xs.length (xs.flatMap (encC e)) ex lo
 | .rf r g off len => .rf r g off len
 | .pe r g e i fo => .pt r g (i * sz e + fo)
 | .pf r g fo => .pt r g fo
 | .pr e xs i fo lo => .pr ((xs.flatMap (encC e)).drop (i * sz e + fo)) lo
 | .clo f ps => .clo f ps
 | .nf => .v .nilFunc
 | .skip => .v (.tuple #[])
 | .dead => .dead
def TG.raw : TG → G
 | .b x => .b x.raw
 | .ag xs => .ag (xs.map TB.raw)
def TV.raw : TV → V
 | .g x => .g x.raw
 | .cl f caps => .cl f (caps.map TG.raw)
 | .tp xs => .tp (xs.map TG.raw)
def TRoot.raw : TRoot → Root
 | .row g e xs => ⟨g, sz e, true, xs.flatMap (encB e)⟩
 | .rcd g cs => ⟨g, cs.length, false, cs.map TB.raw⟩
def TRoot.g : TRoot → Nat
 | .row g _ _ => g
 | .rcd g _ => g
def TEnt.raw : TEnt → Ent
 | .fresh => .fresh
 | .dead => .dead
 | .live rt => .live rt.raw
def zaf (R : TTab) : Tab := R.map TEnt.raw
inductive TP (α : Type) : Type 1 where
 | ret (a : α)
 | fail
 | get (r : Nat) (k : TRoot → TP α)
 | put (r : Nat) (rt : TRoot) (k : TP α)
 | del (r : Nat) (k : TP α)
 | mk (r : Nat) (rt : TRoot) (k : TP α)
 | peek (r : Nat) (k : Option TRoot → TP α)
 | test (c : Bool) (t e : TP α)
 | sub {β : Type} (x : Option β) (f : β → TP α)
namespace TP
def bind {α β : Type} : TP α → (α → TP β) → TP β
 | .ret a, f => f a
 | .fail, _ => .fail
 | .get r k, f => .get r fun rt => (k rt).bind f
 | .put r rt k, f => .put r rt (k.bind f)
 | .del r k, f => .del r (k.bind f)
 | .mk r rt k, f => .mk r rt (k.bind f)
 | .peek r k, f => .peek r fun rt => (k rt).bind f
 | .test c t e, f => .test c (t.bind f) (e.bind f)
 | .sub x k, f => .sub x fun b => (k b).bind f
def ofOpt {α : Type} : Option α → TP α
 | some a => .ret a
 | none => .fail
def guard {α : Type} (c : Bool) (k : TP α) : TP α := .test c k .fail
def ofT {α : Type} : T α → TP α
 | .ret a => .ret a
 | .fail => .fail
 | .test c t e => .test c (ofT t) (ofT e)
 | .sub x k => .sub x fun b => ofT (k b)
def runF {α : Type} : TP α → TTab → List Nat → List Nat → T (α × TTab × List Nat × List Nat)
 | .ret a, R, t, c => .ret (a, R, t, c)
 | .fail, _, _, _ => .fail
 | .get r k, R, t, c => match R[r]? with
  | some (.live rt) => (k rt).runF R (t ++ [r]) c
  | _ => .fail
 | .put r rt k, R, t, c => match R[r]? with
  | some (.live _) => k.runF (R.set r (.live rt)) (t ++ [r]) (c ++ [r])
  | _ => .fail
 | .del r k, R, t, c => match R[r]? with
  | some (.live _) => k.runF (R.set r .dead) (t ++ [r]) (c ++ [r])
  | _ => .fail
 | .mk r rt k, R, t, c => match R[r]? with
  | some .fresh => k.runF (R.set r (.live rt)) (t ++ [r]) (c ++ [r])
  | _ => .fail
 | .peek r k, R, t, c => match R[r]? with
  | some (.live rt) => (k (some rt)).runF R (t ++ [r]) c
  | some .dead => (k none).runF R (t ++ [r]) c
  | _ => .fail
 | .test b x y, R, t, c => .test b (x.runF R t c) (y.runF R t c)
 | .sub x k, R, t, c => .sub x fun b => (k b).runF R t c
end TP
def za1q : Value → Option TB
 | .int k z => some (.int k z)
 | .bool b => some (.bl b)
 | .string s => some (.str s.data.toList)
 | .slice none 0 0 => some (.ro .bool [] true true)
 | .func (.func f) first caps => if first.size = 0 ∧ caps.size = 0 then some (.fn f) else none
 | .nilFunc => some .nf
 | _ => none
def zwf : List Value → Option (List TB)
 | [] => some []
 | x :: xs => match za1q x, zwf xs with
  | some y, some ys => some (y :: ys)
  | _, _ => none
def zzq : Value → Option TV
 | .agg cs => (zwf cs.toList).map fun l => .g (.ag l)
 | x => (za1q x).map fun y => .g (.b y)
def evT (s : Nat → Option TV) : Operand → Option TV
 | .tmp t => s t
 | .const x => zzq x
 | .func f => some (.g (.b (.fn f)))
 | .global _ => none
def TB.conc : TB → Option Value
 | .int k z => some (.int k z)
 | .bl t => some (.bool t)
 | .bool t => some (.bool t)
 | .str l => some (.string ⟨l.toArray⟩)
 | .fn f => some (.func (.func f) #[] #[])
 | _ => none
def z1x : List TB → Option (List Value)
 | [] => some []
 | x :: xs => match x.conc, z1x xs with
  | some v, some vs => some (v :: vs)
  | _, _ => none
def TV.conc : TV → Option Value
 | .g (.b x) => x.conc
 | .g (.ag xs) => (z1x xs).map fun l => .agg l.toArray
 | _ => none
def za0x : Value → Option TB
 | .int k z => some (.int k z)
 | .bool b => some (.bool b)
 | .string s => some (.str s.data.toList)
 | .func (.func f) first caps => if first.size = 0 ∧ caps.size = 0 then some (.fn f) else none
 | _ => none
def z3h : List Value → Option (List TB)
 | [] => some []
 | x :: xs => match za0x x, z3h xs with
  | some y, some ys => some (y :: ys)
  | _, _ => none
def zbc3 : Value → Option TV
 | .agg cs => (z3h cs.toList).map fun l => .g (.ag l)
 | x => (za0x x).map fun y => .g (.b y)
def zhj (ev : Operand → Option TV) : List Operand → Bool
 | [] => true
 | x :: xs => ((ev x).bind TV.conc).isSome && zhj ev xs
def zsu (ev : Operand → Option TV) (x : Operand) : Value := ((ev x).bind TV.conc).getD undef
def zl9 (P : Program) (o : Oper) (ev : Operand → Option TV) : TP TV :=
 if zhj ev o.op.operands.toList then
  match o.op with
  | .select .. => .fail
  | _ => match zbb P (execOp (zsu ev) o) with
   | some (.value y) => TP.ofOpt (zbc3 y)
   | _ => .fail
 else .fail
def zdg (e e' : ETy) (xs : List (den e)) : Option (List (den e')) :=
 if h : e = e' then some (h ▸ xs) else match xs with
  | [] => some []
  | _ :: _ => none
def zf3 : (e : ETy) → den e → List TB
 | .int k, z => [.int k z]
 | .bool, t => [.bool t]
 | .str, l => [.str l]
 | .pair a b, x => zf3 a x.1 ++ zf3 b x.2
 | .list lo e, xs => [.ro e xs false lo]
def decE : (e : ETy) → List TB → Option (den e × List TB)
 | .int k, .int k' z :: r => if k = k' then some (z, r) else none
 | .bool, .bl t :: r => some (t, r)
 | .bool, .bool t :: r => some (t, r)
 | .str, .str l :: r => some (l, r)
 | .pair a b, l => match decE a l with
  | some (x, r) => match decE b r with
   | some (y, r') => some ((x, y), r')
   | none => none
  | none => none
 | .list lo e, .ro e' xs false lo' :: r => if lo = lo' then (zdg e' e xs).map fun ys => (ys, r) else none
 | _, _ => none
def zvv (e : ETy) (l : List TB) : Option (den e) := match decE e l with
 | some (x, []) => some x
 | _ => none
def zbcm (P : Program) : Nat → TypeId → Option ETy
 | 0, _ => none
 | k + 1, t => match P.underlying t with
  | some (.int i) => some (.int i)
  | some .bool => some .bool
  | some .string => some .str
  | some (.slice e) => (zbcm P k e).map (.list true)
  | some (.struct fields) => fieldsTy (fields.toList.map fun f => zbcm P k f.type)
  | _ => none
where
 fieldsTy : List (Option ETy) → Option ETy
  | [] => none
  | [x] => x
  | x :: xs => match x, fieldsTy xs with
   | some a, some b => some (.pair a b)
   | _, _ => none
def ety (P : Program) (t : TypeId) : Option ETy := (zbcm P 8 t).bind fun e => if sz e = P.cellsOf t ∧ e.ok then some e else none
def zgx (x : TB) : TP ((e : ETy) × List (den e)) :=
 match x with
 | .ro e xs _ _ => if e.ok then .ret ⟨e, xs⟩ else .fail
 | .rf r g off len => .get r fun rt => match rt with
  | .row g' e xs => if g' = g then TP.guard (decide (off + len ≤ xs.length)) (.ret ⟨e, win xs off len⟩) else .fail
  | .rcd .. => .fail
 | _ => .fail
def zss (x : TB) : TP TB :=
 match x with
 | .int k z => .ret (.int k z)
 | .bl t => .ret (.bl t)
 | .bool t => .ret (.bool t)
 | .str l => .ret (.str l)
 | .fn f => .ret (.fn f)
 | .nf => .ret .nf
 | .skip => .ret .skip
 | .ro e xs _ lo => .ret (.ro e xs false lo)
 | .rf r g off len => (zgx (.rf r g off len)).bind fun l => if l.1.plain then .del r (.ret (.ro l.1 l.2 false true)) else .fail
 | _ => .fail
def TB.closed : TB → Bool
 | .int .. | .bl _ | .bool _ | .str _ | .fn _ | .nf | .skip => true
 | .ro _ _ ex _ => !ex
 | _ => false
def znr : List TB → TP (List TB)
 | [] => .ret []
 | x :: xs => (zss x).bind fun y => (znr xs).bind fun ys => .ret (y :: ys)
def zyj (l : List TB) : TP (List TB) := if l.all TB.closed then .ret l else znr l
def TB.isCell : TB → Bool
 | .dead | .skip => false
 | _ => true
def ptsT : List TG → Option (List (Nat × Nat × Nat))
 | [] => some []
 | .b (.pf r g fo) :: rest => (ptsT rest).map ((r, g, fo) :: ·)
 | _ :: _ => none
def TV.cells : TV → Option (List TB)
 | .cl f caps => (ptsT caps).map fun ps => [.clo f ps]
 | .g (.b x) => if x.isCell then some [x] else none
 | .g (.ag xs) => if xs.all TB.isCell then some xs else none
 | _ => none
def zhc (P : Program) (t : TypeId) : Option (List TB) := ((P.info? t).bind (·.zero)).bind fun z => zwf z.cells.toList
def zau2 : (e : ETy) → den e
 | .int _ => (0 : Int)
 | .bool => false
 | .str => ([] : List UInt8)
 | .pair a b => (zau2 a, zau2 b)
 | .list lo e => ([] : List (den e))
def zf6 : ETy → List Value → Option (List Value)
 | .int k, .int k' z :: r => if k = k' ∧ z = 0 then some r else none
 | .bool, .bool b :: r => if b then none else some r
 | .str, .string s :: r => if s.size = 0 then some r else none
 | .pair a b, l => (zf6 a l).bind (zf6 b)
 | .list true _, .slice none 0 0 :: r => some r
 | _, _ => none
def zmp (P : Program) (t : TypeId) : Option ((e : ETy) × den e) :=
 match ety P t, ((P.info? t).bind (·.zero)) with
 | some e, some z => match zf6 e z.cells.toList with
  | some [] => some ⟨e, zau2 e⟩
  | _ => none
 | _, _ => none
def zu5 : Option TV → Option Int
 | some (.g (.b (.int _ n))) => some n
 | _ => none
def zik (ev : Operand → Option TV) (dflt : Nat) (k : Nat → TP TV) : Option Operand → TP TV
 | none => k dflt
 | some x => match zu5 (ev x) with
  | some n => TP.guard (decide (0 ≤ n)) (k n.toNat)
  | none => .fail
def zbc9 (P : Program) (t : TypeId) (x : Operand) (y : Option TV) (base : Nat) : TP TV :=
 match x with
 | .const (.slice none 0 0) => match zar P t with
  | some et => match ety P et with
   | some e => if 0 < P.cellsOf et then .mk base (.row 0 e []) (.ret (.g (.b (.rf base 0 0 0)))) else .fail
   | none => .fail
  | none => TP.ofOpt y
 | _ => TP.ofOpt y
def za0z (P : Program) (t : TypeId) (p : Option TV) : TP TV :=
 if (P.underlying t).isNone then .fail else
 match p with
 | some (.g (.b (.pf r g fo))) => .get r fun rt => match rt with
  | .rcd g' cs =>
   if g' = g then
    if zl1 P t then
     if fo + P.cellsOf t ≤ cs.length then .ret (.g (.ag (win cs fo (P.cellsOf t)))) else .fail
    else match cs[fo]? with
     | some c => .ret (.g (.b c))
     | none => .fail
   else .fail
  | .row .. => .fail
 | some (.g (.b (.pe r g e i fo))) => .get r fun rt => match rt with
  | .row g' e' xs =>
   if g' = g then match zdg e' e xs with
    | some xs => .sub xs[i]? fun x =>
     if zl1 P t then
      if fo + P.cellsOf t ≤ sz e then .ret (.g (.ag (win (zf3 e x) fo (P.cellsOf t)))) else .fail
     else match (zf3 e x)[fo]? with
      | some c => .ret (.g (.b c))
      | none => .fail
    | none => .fail
   else .fail
  | .rcd .. => .fail
 | some (.g (.b (.pr e xs i fo lo))) => .sub xs[i]? fun x =>
   if e.ok then
   if zl1 P t then
    if fo + P.cellsOf t ≤ sz e then .ret (.g (.ag (win (zf3 e x) fo (P.cellsOf t)))) else .fail
   else match (zf3 e x)[fo]? with
    | some c => .ret (.g (.b c))
    | none => .fail
   else .fail
 | _ => .fail
def zaun (P : Program) (t : TypeId) (p x : Option TV) : TP TV :=
 match p, x.bind TV.cells with
 | some (.g (.b (.pf r g fo))), some cs => .get r fun rt0 => match rt0 with
  | .row .. => .fail
  | .rcd .. => .get r fun rt => match rt with
   | .rcd g' old =>
    if g' = g ∧ (P.info? t).isSome ∧ cs.length = P.cellsOf t ∧ fo + cs.length ≤ old.length then
     .put r (.rcd g' (old.take fo ++ (cs ++ old.drop (fo + cs.length)))) (.ret (.g (.b .dead)))
    else .fail
   | .row .. => .fail
 | some (.g (.b (.pe r g e i fo))), some cs => .get r fun rt0 => match rt0 with
  | .rcd .. => .fail
  | .row .. => (zyj cs).bind fun cs => .get r fun rt => match rt with
   | .row g' e' xs =>
    if g' = g ∧ (P.info? t).isSome ∧ cs.length = P.cellsOf t ∧ fo + cs.length ≤ sz e then
     match zdg e' e xs with
     | some xs => .sub xs[i]? fun x => match zvv e ((zf3 e x).take fo ++ (cs ++ (zf3 e x).drop (fo + cs.length))) with
      | some y => .put r (.row g' e (xs.set i y)) (.ret (.g (.b .dead)))
      | none => .fail
     | none => .fail
    else .fail
   | .rcd .. => .fail
 | _, _ => .fail
def zny (P : Program) (s : TypeId) (x : Option TV) (f : Nat) : TP TV :=
 match P.underlying s with
 | some (.struct fields) => match fields[f]? with
  | some fl => if P.cellsOf fl.type = 0 then .fail else
   match x with
   | some (.g (.b (.pf r g fo))) => .ret (.g (.b (.pf r g (fo + fl.offset))))
   | some (.g (.b (.pe r g e i fo))) => .ret (.g (.b (.pe r g e i (fo + fl.offset))))
   | some (.g (.b (.pr e xs i fo lo))) => .ret (.g (.b (.pr e xs i (fo + fl.offset) lo)))
   | _ => .fail
  | none => .fail
 | _ => .fail
def zn3 (P : Program) (t : TypeId) (x i : Option TV) : TP TV :=
 match zar P t, zu5 i with
 | some et, some n =>
  match x with
  | some (.g (.b (.rf r g off len))) => .get r fun rt => match rt with
   | .row g' e xs => if g' = g ∧ sz e = P.cellsOf et then TP.guard (decide (0 ≤ n ∧ n < len)) (.ret (.g (.b (.pe r g e (off + n.toNat) 0)))) else .fail
   | .rcd .. => .fail
  | some (.g (.b (.ro e xs _ lo))) =>
   if sz e = P.cellsOf et ∧ 0 < P.cellsOf et then TP.guard (decide (0 ≤ n ∧ n < xs.length)) (.ret (.g (.b (.pr e xs n.toNat 0 lo)))) else .fail
  | _ => .fail
 | _, _ => .fail
def zauk (P : Program) (ev : Operand → Option TV) (t : TypeId) (x : Operand) (lo hi mx : Option Operand) : TP TV :=
 match zar P t with
 | none => match ev x, mx, P.underlying t with
  | some (.g (.b (.str l))), none, some .string =>
   zik ev 0 (fun a => zik ev l.length (fun b => TP.guard (decide (a ≤ b ∧ b ≤ l.length)) (.ret (.g (.b (.str (win l a (b - a))))))) hi) lo
  | _, _, _ => .fail
 | some et =>
  match ev x with
  | some (.g (.b (.rf r g off len))) => match mx with
   | none => zik ev 0 (fun a => zik ev len (fun b => .get r fun rt => match rt with
    | .row g' e xs => if g' = g ∧ sz e = P.cellsOf et then TP.guard (decide (a ≤ b ∧ b ≤ len)) (.ret (.g (.b (.rf r g (off + a) (b - a))))) else .fail
    | .rcd .. => .fail) hi) lo
   | some _ => .fail
  | some (.g (.b (.ro e xs ex lk))) =>
   if sz e = P.cellsOf et ∧ 0 < P.cellsOf et then
   match mx with
   | none => zik ev 0 (fun a => zik ev xs.length (fun b => TP.guard (decide (a ≤ b ∧ b ≤ xs.length)) (.ret (.g (.b (.ro e (win xs a (b - a)) (ex && hi.isNone) lk))))) hi) lo
   | some m => if hi.isSome then zik ev 0 (fun a => zik ev xs.length (fun b => zik ev xs.length (fun c => TP.guard (decide (a ≤ b ∧ b = c ∧ c ≤ xs.length)) (.ret (.g (.b (.ro e (win xs a (b - a)) true lk))))) (some m)) hi) lo else .fail
   else .fail
  | _ => .fail
def lenT : Option TV → Option Nat
 | some (.g (.b (.rf _ _ _ n))) => some n
 | some (.g (.b (.ro _ xs _ _))) => some xs.length
 | _ => none
def z64 (P : Program) (t tx : TypeId) (s x : Option TV) (base : Nat) : TP TV :=
 match zar P t, zar P tx, s, x with
 | some et, some _, some (.g (.b s)), some (.g (.b x)) =>
  match ety P et with
  | some e =>
   (zgx x).bind fun new => match zdg new.1 e new.2 with
    | some ys =>
     if 0 < P.cellsOf et ∧ (zeroCells P et).map (·.length) = some (P.cellsOf et) then
     match s with
     | .rf r g off len => .get r fun rt => match rt with
      | .row g' e' xs =>
       match zdg e' e xs with
       | some xs => if g' = g ∧ sz e' = P.cellsOf et then
         TP.guard (decide (off + len ≤ xs.length)) (TP.guard (decide (2 * ((len + ys.length) * (P.bytesOf et + 1)) ≤ zda))
          (.put r (.row (g + 1) e (win xs off len ++ ys)) (.ret (.g (.b (.rf r (g + 1) 0 (len + ys.length)))))))
        else .fail
       | none => .fail
      | .rcd .. => .fail
     | .ro e0 xs0 true lo =>
      match zdg e0 e xs0 with
      | some xs =>
        TP.guard (decide (¬ (ys.length = 0 ∧ xs.length ≠ 0))) (TP.guard (decide (2 * ((xs.length + ys.length) * (P.bytesOf et + 1)) ≤ zda))
         (.mk base (.row 0 e (xs ++ ys)) (.ret (.g (.b (.rf base 0 0 (xs.length + ys.length)))))))
      | none => .fail
     | _ => .fail
     else .fail
    | none => .fail
  | none => .fail
 | _, _, _, _ => .fail
def zn6 (P : Program) (t : TypeId) (len cap : Option TV) (base : Nat) : TP TV :=
 match zar P t, zu5 len, zu5 cap with
 | some et, some l, some c =>
  match zmp P et with
  | some ⟨e, z⟩ => if sz e = P.cellsOf et ∧ 0 < P.cellsOf et then
    TP.guard (decide (0 ≤ l ∧ l ≤ c ∧ c.toNat * (P.bytesOf et + 1) ≤ zda)) (.mk base (.row 0 e (List.replicate c.toNat z)) (.ret (.g (.b (.rf base 0 0 l.toNat)))))
   else .fail
  | none => .fail
 | _, _, _ => .fail
def zaeo (zb2 : Nat → Option (Nat × Nat)) (cells : List TB) : List (Nat × List TB) → Option (List TB)
 | [] => some cells
 | (i, p) :: rest =>
  match zb2 i with
  | some (off, size) =>
   if p.length = size ∧ off + size ≤ cells.length then zaeo zb2 (cells.take off ++ (p ++ cells.drop (off + size))) rest else none
  | none => none
def zjr (ev : Operand → Option TV) : List (Nat × Operand) → Option (List (Nat × List TB))
 | [] => some []
 | (i, x) :: rest => match (ev x).bind TV.cells, zjr ev rest with
  | some p, some ps => some ((i, p) :: ps)
  | _, _ => none
def zky : List (Nat × List TB) → TP (List (Nat × List TB))
 | [] => .ret []
 | (i, p) :: rest => (zyj p).bind fun q => (zky rest).bind fun qs => .ret ((i, q) :: qs)
def zaen (e : ETy) (xs : List (den e)) : List (Nat × List TB) → Option (List (den e))
 | [] => some xs
 | (i, p) :: rest => match zvv e p with
  | some x => if i < xs.length then zaen e (xs.set i x) rest else none
  | none => none
def zao7 (P : Program) (ev : Operand → Option TV) (t : TypeId) (parts : List (Nat × Operand)) : TP TV :=
 match P.underlying t, zhc P t, zjr ev parts with
 | some (.struct fields), some z, some ps =>
  if fields.toList.all (fun f => (P.info? f.type).isSome) then
   match zaeo (fun i => (fields[i]?).map fun (f : Field) => (f.offset, P.cellsOf f.type)) z ps with
   | some cs => .ret (.g (.ag cs))
   | none => .fail
  else .fail
 | _, _, _ => .fail
def seqE (e : ETy) : Nat → List (Nat × List TB) → Option (List (den e))
 | _, [] => some []
 | k, (i, p) :: rest => if i = k then match zvv e p, seqE e (k + 1) rest with
   | some x, some xs => some (x :: xs)
   | _, _ => none
  else none
def zkw (P : Program) (ev : Operand → Option TV) (t : TypeId) (n : Nat) (parts : List (Nat × Operand)) (base : Nat) : TP TV :=
 match zar P t, zjr ev parts with
 | some et, some ps => match zmp P et with
  | some ⟨e, z⟩ => if sz e = P.cellsOf et ∧ 0 < P.cellsOf et ∧ n * P.cellsOf et ≤ 2 ^ 24 then
    (zky ps).bind fun ps => match zaen e (List.replicate n z) ps with
     | some xs => .mk base (.row 0 e xs) (.ret (.g (.b (.rf base 0 0 n))))
     | none => match e with
      | .list true e0 => match seqE (.list false e0) 0 ps with
       | some xs => if xs.length = n then .mk base (.row 0 (.list false e0) xs) (.ret (.g (.b (.rf base 0 0 n)))) else .fail
       | none => .fail
      | _ => .fail
   else .fail
  | none => .fail
 | _, _ => .fail
def zll (l : List UInt8) : List Int := l.map fun b => (b.toNat : Int)
def zyl (P : Program) (o : Oper) (ev : Operand → Option TV) (src dst : TypeId) (x : Operand) (base : Nat) : TP TV :=
 match P.underlying src, P.underlying dst, ev x with
 | some .string, some (.slice e), some (.g (.b (.str l))) =>
  match P.underlying e with
  | some (.int .u8) => TP.guard (decide (l.length ≤ zda)) (.ret (.g (.b (.ro (.int .u8) (zll l) false true))))
  | _ => .fail
 | some (.slice e), some .string, some (.g (.b y)) =>
  match P.underlying e with
  | some (.int .u8) => (zgx y).bind fun l => match zdg l.1 (.int .u8) l.2 with
   | some zs => .ret (.g (.b (.str (zs.map fun (z : Int) => UInt8.ofNat z.toNat))))
   | none => .fail
  | _ => .fail
 | _, _, _ => zl9 P o ev
def zbo {α : Type} (cells : List α) (off : Nat) (p : List α) : List α := cells.take off ++ (p ++ cells.drop (off + p.length))
def zapd (P : Program) (t : TypeId) (x : Option TV) : TP TV :=
 match zar P t, x with
 | some et, some (.g (.b (.rf r g off len))) => match zmp P et with
  | some ⟨e0, z⟩ => .get r fun rt => match rt with
   | .row g' e xs => match zdg e0 e [z] with
    | some (z :: _) => if g' = g then TP.guard (decide (0 < len ∧ off + len ≤ xs.length)) (.put r (.row g' e (zbo xs off (List.replicate len z))) (.ret (.g (.b .dead)))) else .fail
    | _ => .fail
   | .rcd .. => .fail
  | none => .fail
 | _, _ => .fail
def zbck (P : Program) (t : TypeId) (d s : Option TV) : TP TV :=
 match zar P t, d, s with
 | some et, some (.g (.b (.rf r g off len))), some (.g (.b s)) => (zgx s).bind fun new => .get r fun rt => match rt with
  | .row g' e xs => match zdg new.1 e new.2 with
   | some ys => if g' = g ∧ sz e = P.cellsOf et then TP.guard (decide (0 < min ys.length len ∧ off + len ≤ xs.length)) (.put r (.row g' e (zbo xs off (ys.take (min ys.length len)))) (.ret (.g (.b (.int .i64 (min ys.length len : Nat)))))) else .fail
   | none => .fail
  | .rcd .. => .fail
 | _, _, _ => .fail
def znq (ev : Operand → Option TV) : List Operand → Option (List TG)
 | [] => some []
 | x :: xs => match ev x, znq ev xs with
  | some (.g y), some ys => some (y :: ys)
  | _, _ => none
def zw4 : TB → TB → Option Bool
 | .int k a, .int k' b => if k = k' then some (a == b) else none
 | .str a, .str b => some (a == b)
 | .bool a, .bool b => some (a == b)
 | .bl a, .bool b => some (a == b)
 | .bool a, .bl b => some (a == b)
 | .bl a, .bl b => some (a == b)
 | _, _ => none
def zp9 (P : Program) (t : TypeId) (x : TB) : Bool :=
 match P.underlying t, x with
 | some (.int k), .int k' _ => k == k'
 | some .bool, .bool _ => true
 | some .bool, .bl _ => true
 | some .string, .str _ => true
 | _, _ => false
def zgm (P : Program) (xs ys : List TB) : List Field → Option Bool
 | [] => some true
 | f :: fs => match xs[f.offset]?, ys[f.offset]? with
  | some a, some b => if f.name ≠ "_" ∧ zp9 P f.type a ∧ zp9 P f.type b then
    match zw4 a b, zgm P xs ys fs with
    | some t, some u => some (t && u)
    | _, _ => none
   else none
  | _, _ => none
def binT (P : Program) (o : Oper) (ev : Operand → Option TV) (op : BinOp) (t : TypeId) (x y : Operand) : TP TV :=
 match op, ev x, ev y with
 | .quo, some (.g (.b (.int k a))), some (.g (.b (.int k' b))) => if k = k' then TP.guard (decide (b ≠ 0)) (.ret (.g (.b (.int k (k.wrap (a.tdiv b)))))) else .fail
 | .rem, some (.g (.b (.int k a))), some (.g (.b (.int k' b))) => if k = k' then TP.guard (decide (b ≠ 0)) (.ret (.g (.b (.int k (a.tmod b))))) else .fail
 | .shl, some (.g (.b (.int k a))), some (.g (.b (.int _ b))) => TP.guard (decide (0 ≤ b ∧ b ≤ 63)) (if 63 ≤ k.bits then .ret (.g (.b (.int k (k.wrap (a * 2 ^ b.toNat))))) else .fail)
 | .add, some (.g (.b (.str a))), some (.g (.b (.str b))) => TP.guard (decide (a.length + b.length ≤ zda)) (.ret (.g (.b (.str (a ++ b)))))
 | .eql, some (.g (.b (.str a))), some (.g (.b (.str b))) => .ret (.g (.b (.bool (a == b))))
 | .neq, some (.g (.b (.str a))), some (.g (.b (.str b))) => .ret (.g (.b (.bool (!(a == b)))))
 | .eql, some (.g (.ag xs)), some (.g (.ag ys)) => match P.underlying t with
  | some (.struct fs) => if P.stoodInHeld t = false ∧ P.eqGuardType P.depth t = false then
    match zgm P xs ys fs.toList with
    | some r => .ret (.g (.b (.bool r)))
    | none => .fail
   else .fail
  | _ => .fail
 | .neq, some (.g (.ag xs)), some (.g (.ag ys)) => match P.underlying t with
  | some (.struct fs) => if P.stoodInHeld t = false ∧ P.eqGuardType P.depth t = false then
    match zgm P xs ys fs.toList with
    | some r => .ret (.g (.b (.bool (!r))))
    | none => .fail
   else .fail
  | _ => .fail
 | _, _, _ => zl9 P o ev
def unT (P : Program) (o : Oper) (ev : Operand → Option TV) (op : UnOp) (x : Operand) : TP TV :=
 match op, ev x with
 | .not, some (.g (.b (.bl t))) => .ret (.g (.b (.bl (!t))))
 | _, _ => zl9 P o ev
def zasc (P : Program) (ev : Operand → Option TV) (t : TypeId) (x i : Operand) : TP TV :=
 match ev x, zu5 (ev i), P.underlying t with
 | some (.g (.b (.str l))), some n, some .string => TP.guard (decide (0 ≤ n ∧ n < l.length)) (.sub l[n.toNat]? fun c => .ret (.g (.b (.int .u8 c.toNat))))
 | _, _, _ => .fail
def actT (P : Program) (o : Oper) (ev : Operand → Option TV) (base : Nat) : TP TV :=
 match o.op with
 | .move x | .assign x => zbc9 P o.type x (ev x) base
 | .pick c a b => match ev c with
  | some (.g (.b (.bl t))) => if t then TP.ofOpt (ev a) else TP.ofOpt (ev b)
  | some (.g (.b (.bool t))) => .test t (TP.ofOpt (ev a)) (TP.ofOpt (ev b))
  | _ => .fail
 | .alloc t => match P.underlying t with
  | some (.array _ _) => .fail
  | _ => match zhc P t with
   | some cs => .mk base (.rcd 0 cs) (.ret (.g (.b (.pf base 0 0))))
   | none => .fail
 | .box t x => match (ev x).bind TV.cells with
  | some cs => .mk base (.rcd 0 cs) (.ret (.g (.b (.pf base 0 0))))
  | none => .fail
 | .build t parts => zao7 P ev t parts.toList
 | .buildSlice t n parts => zkw P ev t n parts.toList base
 | .load t p => za0z P t (ev p)
 | .store t p x => zaun P t (ev p) (ev x)
 | .nilCheck x => match ev x with
  | some (.g (.b (.pf r g fo))) => .ret (.g (.b (.pf r g fo)))
  | some (.g (.b (.pe r g e i fo))) => .ret (.g (.b (.pe r g e i fo)))
  | some (.g (.b (.pr e xs i fo lo))) => .ret (.g (.b (.pr e xs i fo lo)))
  | some (.cl f caps) => .ret (.cl f caps)
  | some (.g (.b (.clo f ps))) => .ret (.g (.b (.clo f ps)))
  | _ => zl9 P o ev
 | .convert src dst x => zyl P o ev src dst x base
 | .makeFunc (.func f) first captured =>
  if first.size = 0 ∧ captured.size ≠ 0 then
   match znq ev captured.toList with
   | some caps => .ret (.cl f caps)
   | none => .fail
  else zl9 P o ev
 | .makeSlice t l c => zn6 P t (ev l) (ev c) base
 | .slice t x lo hi mx => zauk P ev t x lo hi mx
 | .fieldAddr s x f => zny P s (ev x) f
 | .indexAddr t x i => zn3 P t (ev x) (ev i)
 | .extract x i => match ev x with
  | some (.tp xs) => match xs[i]? with
   | some y => .ret (.g y)
   | none => .fail
  | _ => .fail
 | .call { callee := .builtin .len, args, argTypes } =>
  match args[0]?, argTypes[0]?.bind (zar P) with
  | some x, some _ => match lenT (ev x) with
   | some n => .ret (.g (.b (.int .i64 n)))
   | none => .fail
  | some x, none => match ev x, argTypes[0]?.bind P.underlying, args.toList with
   | some (.g (.b (.str l))), some .string, [_] => .ret (.g (.b (.int .i64 l.length)))
   | _, _, _ => .fail
  | _, _ => .fail
 | .call { callee := .builtin .append, args, argTypes } =>
  match args.toList, argTypes.toList with
  | [s, x], [t, tx] => z64 P t tx (ev s) (ev x) base
  | _, _ => .fail
 | .call { callee := .builtin .clear, args, argTypes } =>
  match args.toList, argTypes.toList with
  | [x], [t] => zapd P t (ev x)
  | _, _ => .fail
 | .call { callee := .builtin .copy, args, argTypes } =>
  match args.toList, argTypes.toList with
  | [d, s], [t, _] => zbck P t (ev d) (ev s)
  | _, _ => .fail
 | .call { callee := .builtin .min, .. } | .call { callee := .builtin .max, .. } => zl9 P o ev
 | .binOp op t x y _ => binT P o ev op t x y
 | .unOp op _ x => unT P o ev op x
 | .index t x i => zasc P ev t x i
 | _ => .fail
def TB.refs : TB → List Nat
 | .rf r _ _ _ => [r]
 | .pe r _ _ _ _ => [r]
 | .pf r _ _ => [r]
 | .clo _ ps => ps.map (·.1)
 | _ => []
def TG.refs : TG → List Nat
 | .b x => x.refs
 | .ag xs => xs.flatMap TB.refs
def TV.refs : TV → List Nat
 | .g x => x.refs
 | .cl _ caps => caps.flatMap TG.refs
 | .tp xs => xs.flatMap TG.refs
abbrev TIds := List (Nat × TRoot)
def TRoot.refs : TRoot → List Nat
 | .row .. => []
 | .rcd _ cs => cs.flatMap TB.refs
def zwm : Nat → List Nat → TIds → TP TIds
 | _, [], acc => .ret acc
 | 0, _ :: _, _ => .fail
 | k + 1, r :: todo, acc =>
  if acc.any (fun p => p.1 == r) then zwm k todo acc
  else .peek r fun
   | some rt => zwm k (rt.refs ++ todo) (acc ++ [(r, rt)])
   | none => zwm k todo acc
def z7p : Nat → Nat → TP TIds
 | 0, _ => .ret []
 | m + 1, j => .get j fun rt => (z7p m (j + 1)).bind fun ids => .ret ((j, rt) :: ids)
def zapx : TIds → Nat → Nat → Option (Nat × TRoot)
 | [], _, _ => none
 | (r', rt) :: rest, r, j => if r' = r then some (j, rt) else zapx rest r (j + 1)
def TB.mapR (φ : Nat → Nat → Option (Nat × Nat)) : TB → TB
 | .rf r g off len => match φ r g with
  | some (r', g') => .rf r' g' off len
  | none => .dead
 | .pe r g e i fo => match φ r g with
  | some (r', g') => .pe r' g' e i fo
  | none => .dead
 | .pf r g fo => match φ r g with
  | some (r', g') => .pf r' g' fo
  | none => .dead
 | .clo f ps => match zi1 (fun p => (φ p.1 p.2.1).map fun q => (q.1, q.2, p.2.2)) ps with
  | some qs => .clo f qs
  | none => .dead
 | x => x
def TG.mapR (φ : Nat → Nat → Option (Nat × Nat)) : TG → TG
 | .b x => .b (x.mapR φ)
 | .ag xs => .ag (xs.map (TB.mapR φ))
def TV.mapR (φ : Nat → Nat → Option (Nat × Nat)) : TV → TV
 | .g x => .g (x.mapR φ)
 | .cl f caps => .cl f (caps.map (TG.mapR φ))
 | .tp xs => .tp (xs.map (TG.mapR φ))
def TRoot.mapR (φ : Nat → Nat → Option (Nat × Nat)) (g : Nat) : TRoot → TRoot
 | .row _ e xs => .row g e xs
 | .rcd _ cs => .rcd g (cs.map (TB.mapR φ))
def renT (keep : Nat) (ids : TIds) (r g : Nat) : Option (Nat × Nat) := match zapx ids r 0 with
 | some (j, rt) => if rt.g = g then some (j, if j < keep then min g 1 else 0) else none
 | none => none
def zw2 (keep : Nat) (ids : TIds) : Nat → TIds → TTab
 | _, [] => []
 | j, (_, rt) :: rest => .live (rt.mapR (renT keep ids) (if j < keep then min rt.g 1 else 0)) :: zw2 keep ids (j + 1) rest
def zv8 (m : Nat) (vs : List TV) : TP TIds :=
 (z7p m 0).bind fun ps => zwm zbjl (ps.flatMap (fun p => p.2.refs) ++ vs.flatMap TV.refs) ps
def zarv (fl : Option ETy) (x : TB) : TP TB :=
 match fl, x with
 | some e, .rf r g off len => (zss (.rf r g off len)).bind fun y => match y with
  | .ro e' xs ex lo => match zdg e' e xs with
   | some ys => .ret (.ro e ys ex lo)
   | none => .fail
  | _ => .fail
 | some e, .ro e' xs _ lo => match zdg e' e xs with
  | some ys => .ret (.ro e ys false lo)
  | none => .fail
 | _, .bl t => .ret (.bool t)
 | _, x => .ret x
def ztc (fl : Option ETy) : List TB → TP (List TB)
 | [] => .ret []
 | x :: xs => (zarv fl x).bind fun y => (ztc fl xs).bind fun ys => .ret (y :: ys)
def z2t (fl : Option ETy) (x : TG) : TP TG :=
 match x with
 | .b x => (zarv fl x).bind fun y => .ret (.b y)
 | .ag xs => (ztc fl xs).bind fun ys => .ret (.ag ys)
def ztd : List (Option ETy) → List TG → TP (List TG)
 | _, [] => .ret []
 | fl, x :: xs => (z2t (fl.headD none) x).bind fun y => (ztd fl.tail xs).bind fun ys => .ret (y :: ys)
def za51 (fl : Option ETy) (x : TV) : TP TV :=
 match x with
 | .g x => (z2t fl x).bind fun y => .ret (.g y)
 | x => .ret x
def zn2 : List (Option ETy) → List TV → TP (List TV)
 | _, [] => .ret []
 | fl, x :: xs => (za51 (fl.headD none) x).bind fun y => (zn2 fl.tail xs).bind fun ys => .ret (y :: ys)
def zacc (mode : Bool) (x : TB) : TP TB :=
 match x with
 | .rf r g off len => if mode then .ret (.rf r g off len) else (zgx (.rf r g off len)).bind fun l => if l.1.ok then .ret (.ro l.1 l.2 false false) else .fail
 | x => .ret x
def zzv (mode : Bool) : List TB → TP (List TB)
 | [] => .ret []
 | x :: xs => (zacc mode x).bind fun y => (zzv mode xs).bind fun ys => .ret (y :: ys)
def zatq (mode : Bool) (x : TG) : TP TG :=
 match x with
 | .b x => (zacc mode x).bind fun y => .ret (.b y)
 | .ag xs => (zzv mode xs).bind fun ys => .ret (.ag ys)
def z7q (mode : Bool) : List TG → TP (List TG)
 | [] => .ret []
 | x :: xs => (zatq mode x).bind fun y => (z7q mode xs).bind fun ys => .ret (y :: ys)
def oneE : TB → Option ((e : ETy) × den e)
 | .int k z => some ⟨.int k, z⟩
 | .bl t => some ⟨.bool, t⟩
 | .bool t => some ⟨.bool, t⟩
 | .str l => some ⟨.str, l⟩
 | .ro e xs _ lo => if e.plain then some ⟨.list lo e, xs⟩ else none
 | _ => none
def recE : List TB → Option ((e : ETy) × den e)
 | [] => none
 | x :: xs => match xs with
  | [] => oneE x
  | _ :: _ => match oneE x, recE xs with
   | some ⟨a, u⟩, some ⟨b, v⟩ => some ⟨.pair a b, (u, v)⟩
   | _, _ => none
def zasi (x : TB) : TP TB :=
 match x with
 | .pf r g fo => .get r fun rt => match rt with
  | .rcd g' cs => if g' = g then match recE cs with
    | some ⟨e, v⟩ => if fo = 0 then .ret (.pr e [v] 0 0 false) else .fail
    | none => .fail
   else .fail
  | .row .. => .fail
 | .pe .. => .fail
 | x => zacc false x
def za53 (x : TG) : TP TG :=
 match x with
 | .b x => (zasi x).bind fun y => .ret (.b y)
 | .ag xs => (zzv false xs).bind fun ys => .ret (.ag ys)
def z7m : List TG → TP (List TG)
 | [] => .ret []
 | x :: xs => (za53 x).bind fun y => (z7m xs).bind fun ys => .ret (y :: ys)
def za57 (mode : Bool) (x : TV) : TP TV :=
 match x with
 | .g x => (zatq mode x).bind fun y => .ret (.g y)
 | .cl f caps => (if mode then z7m caps else z7q false caps).bind fun ys => .ret (.cl f ys)
 | .tp _ => .fail
def zzt : List Bool → List TV → TP (List TV)
 | _, [] => .ret []
 | ms, x :: xs => (za57 (ms.headD false) x).bind fun y => (zzt ms.tail xs).bind fun ys => .ret (y :: ys)
def z7x (mode : Bool) : TB → List Nat
 | .rf r _ _ _ => if mode then [] else [r]
 | _ => []
def zur (mode : Bool) : TG → List Nat
 | .b x => z7x mode x
 | .ag xs => xs.flatMap (z7x mode)
def za54 : TG → List Nat
 | .b (.pf r _ _) => [r]
 | .b (.pe r _ _ _ _) => [r]
 | x => zur false x
def z7y (mode : Bool) : TV → List Nat
 | .g x => zur mode x
 | .cl _ caps => caps.flatMap (if mode then za54 else zur false)
 | .tp _ => []
def zmg : List Bool → List TV → List Nat
 | _, [] => []
 | ms, x :: xs => z7y (ms.headD false) x ++ zmg ms.tail xs
def zao4 (ids : TIds) (snaps : List Nat) : Bool := snaps.all fun r => !ids.any fun p => p.1 == r
def subT (ids : TIds) (base : Nat) (j g : Nat) : Option (Nat × Nat) := match ids[j]? with
 | some (r, rt) => some (r, rt.g + g)
 | none => some (base + (j - ids.length), g)
def zao6 (all : TIds) (base : Nat) : TIds → Nat → TTab → TP Unit
 | (r, rt0) :: rest, j, .live rt :: R => .put r (rt.mapR (subT all base) (rt0.g + rt.g)) (zao6 all base rest j R)
 | (_, _) :: _, _, _ => .fail
 | [], j, .live rt :: R => if j < 4 then .mk (base + j) (rt.mapR (subT all base) rt.g) (zao6 all base [] (j + 1) R) else .fail
 | [], _, [] => .ret ()
 | [], _, _ => .fail
def TB.retOK : TB → Bool
 | .ro e _ _ lo => lo && e.back
 | .pr .. => false
 | _ => true
def TG.retOK : TG → Bool
 | .b x => x.retOK
 | .ag xs => xs.all TB.retOK
def TV.retOK : TV → Bool
 | .g x => x.retOK
 | .cl _ caps => caps.all TG.retOK
 | .tp xs => xs.all TG.retOK
def TEnt.retOK : TEnt → Bool
 | .live (.rcd _ cs) => cs.all TB.retOK
 | .live (.row _ e _) => e.back
 | _ => true
def zapa (lib : List TV → TTab → T (TV × TTab)) (gives : List (Option ETy)) (mode : List Bool) (args : List TV) (base : Nat) : TP TV :=
 (zn2 gives args).bind fun args => (zzt mode args).bind fun args' => (zv8 0 args').bind fun ids =>
  if zao4 ids (zmg mode args) then
   (TP.ofT (lib (args'.map (TV.mapR (renT 0 ids))) (zw2 0 ids 0 ids))).bind fun r =>
    if r.1.retOK && r.2.all TEnt.retOK then (zao6 ids base ids 0 r.2).bind fun _ => .ret (r.1.mapR (subT ids base)) else .fail
  else .fail
structure TEnv where
 P : Program
 lib : FuncId → Option (List TV → TTab → T (TV × TTab))
 raw : FuncId → List V → Tab → Option (V × Tab)
 modes : FuncId → List Bool
 gives : FuncId → List (Option ETy)
def zs7 (ev : Operand → Option TV) : List Operand → Option (List TV)
 | [] => some []
 | x :: xs => match ev x, zs7 ev xs with
  | some y, some ys => some (y :: ys)
  | _, _ => none
def opT (E : TEnv) (o : Oper) (ev : Operand → Option TV) (base : Nat) : TP TV :=
 match o.op with
 | .call { callee := .value x, args, .. } =>
  match ev x, zs7 ev args.toList with
  | some (.g (.b (.fn f))), some as => match E.lib f with
   | some L => zapa L (E.gives f) (E.modes f) as base
   | none => .fail
  | some (.cl f caps), some as => match E.lib f with
   | some L => zapa L (E.gives f) (E.modes f) (as ++ caps.map .g) base
   | none => .fail
  | some (.g (.b (.clo f ps))), some as => match E.lib f with
   | some L => zapa L (E.gives f) (E.modes f) (as ++ ps.map fun p => .g (.b (.pf p.1 p.2.1 p.2.2))) base
   | none => .fail
  | _, _ => .fail
 | _ => actT E.P o ev base
abbrev zat := List (Nat × TV)
def ziz : zat → Nat → Option TV
 | [], _ => none
 | (d, v) :: rest, t => if d = t then some v else ziz rest t
def putT (s : zat) (dst : Option Tmp) (v : TV) : zat :=
 match dst with
 | some d => (d, v) :: s
 | none => s
def z3b (t : Nat) (b : Bool) : zat → zat
 | [] => []
 | (d, v) :: rest => if d = t then (d, .g (.b (.bl b))) :: rest else (d, v) :: z3b t b rest
def zasa (ops : Array Oper) (s : zat) (o : Oper) : T (Bool × zat) :=
 match o.guard with
 | none => .ret (true, s)
 | some (j, want) => match (ops[j]?).bind (·.dst) with
  | some d => match ziz s d with
   | some (.g (.b (.bl t))) => .ret (t == want, s)
   | some (.g (.b (.bool t))) => .test t (.ret (true == want, z3b d true s)) (.ret (false == want, z3b d false s))
   | some (.g (.b .skip)) => .ret (false, s)
   | _ => .fail
  | none => .fail
section
variable (E : TEnv)
def zog (ops : Array Oper) : List (Oper × Nat) → zat → TTab → List (List Nat × List Nat) → T (zat × TTab × List (List Nat × List Nat))
 | [], s, R, ps => .ret (s, R, ps)
 | (o, base) :: rest, s, R, ps => (zasa ops s o).bind fun g =>
  match g with
  | (false, s) => zog ops rest (putT s o.dst (.g (.b .skip))) R (ps ++ [([], [])])
  | (true, s) => ((opT E o (evT (ziz s)) base).runF R [] []).bind fun r =>
   zog ops rest (putT s o.dst r.1) r.2.1 (ps ++ [(r.2.2.1, r.2.2.2)])
def zs8 (ops : Array Oper) (draw : Bool) (s : zat) (R : TTab) : T (zat × TTab) :=
 let R0 := R ++ List.replicate (zn8 ops.toList) .fresh
 (zog E ops (zbe (R0.length - zn8 ops.toList) ops.toList) s R0 []).bind fun r =>
  if draw then
   if zacu ops && zayc ops r.2.2 then .ret (r.1, r.2.1) else .fail
  else .ret (r.1, r.2.1)
def zase (s : zat) : List (Nat × Option ETy) → Option (List TV)
 | [] => some []
 | (t, _) :: ts => match ziz s t, zase s ts with
  | some v, some vs => some (v :: vs)
  | _, _ => none
def zasb (m : Nat) (live : List (Nat × Option ETy)) (s : zat) (R : TTab) : T (zat × TTab) :=
 match zase s live with
 | some vs => (((zn2 (live.map (·.2)) vs).bind fun vs => (zv8 m vs).bind fun ids => .ret (ids, vs)).runF R [] []).bind fun r =>
   .ret ((live.map (·.1)).zip (r.1.2.map (TV.mapR (renT m r.1.1))), zw2 m r.1.1 0 r.1.1)
 | none => .fail
end
end Go.Gm
