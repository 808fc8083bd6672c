import Derived.Orders
import Derived.CheckFast
namespace Go.Gm
abbrev qa := @Option.bind_some
abbrev qb := @List.getElem?_eq_getElem
abbrev qc := @Option.some.injEq
abbrev qd := @decide_eq_true
abbrev qe := @Int.toNat_natCast
abbrev qf := @Option.map_eq_some_iff
abbrev qg := @List.getD_eq_getElem?_getD
abbrev qh := @List.getElem?_eq_some_iff
abbrev qi := @Nat.le_refl
abbrev qj := @Bool.false_eq_true
abbrev qk := @List.length_cons
abbrev ql := @List.length_append
abbrev qm := @List.drop_eq_getElem_cons
abbrev qn := @List.getElem?_map
abbrev qo := @Bool.and_eq_true
abbrev qp := @List.mem_of_getElem?
abbrev qq := @List.length_nil
abbrev qr := @Prod.mk.injEq
abbrev qt := @List.all_eq_true
abbrev qu := @List.map_cons
abbrev qv := @List.mem_cons_of_mem
abbrev qw := @List.nil_append
abbrev qx := @Option.bind_eq_some_iff
abbrev qy := @List.length_set
abbrev ka := @Int.natCast_zero
abbrev kb := @List.length_drop
abbrev kc := @Array.getElem?_eq_some_iff
abbrev ke := @List.drop_of_length_le
abbrev kf := @decide_eq_true_eq
abbrev kg := @List.mem_append
abbrev kh := @List.getElem?_set_ne
abbrev ki := @Nat.mul_le_mul_right
abbrev kj := @List.length_replicate
abbrev kk := @List.getElem?_cons_zero
abbrev kl := @List.getElem?_append_right
abbrev km := @List.length_map
abbrev kn := @List.getElem?_append_left
abbrev kp := @List.length_take
abbrev kq := @List.append_nil
abbrev ks := @List.eq_nil_of_length_eq_zero
abbrev ku := @of_decide_eq_true
abbrev kv := @Array.eq_empty_of_size_eq_zero
end Go.Gm
namespace Go.Gm
set_option linter.unusedVariables false
inductive C where
 | v (x : Value)
 | sl (lo : Bool) (n : Nat) (xs : List Value)
inductive B where
 | v (x : Value)
 | ro (n : Nat) (cs : List C) (ex lo : Bool)
 | rf (r g off len : Nat)
 | pt (r g off : Nat)
 | pr (cs : List C) (lo : Bool)
 | clo (f : FuncId) (ps : List (Nat × Nat × Nat))
 | dead
inductive G where
 | b (x : B)
 | ag (xs : List B)
inductive V where
 | g (x : G)
 | cl (fn : FuncId) (caps : List G)
 | tp (xs : List G)
structure Root where
 g : Nat
 es : Nat
 row : Bool
 cells : List B
inductive Ent where
 | fresh
 | dead
 | live (rt : Root)
abbrev Tab := List Ent
inductive Pr (α : Type) where
 | ret (a : α)
 | fail
 | get (r : Nat) (k : Root → Pr α)
 | put (r : Nat) (rt : Root) (k : Pr α)
 | del (r : Nat) (k : Pr α)
 | mk (r : Nat) (rt : Root) (k : Pr α)
 | peek (r : Nat) (k : Option Root → Pr α)
namespace Pr
def bind {α β : Type} : Pr α → (α → Pr β) → Pr β
 | .ret a, f => f a
 | .fail, _ => .fail
 | .get r k, f => .get r fun rt => (k rt).bind f
 | .put r rt k, f => .put r rt (k.bind f)
 | .del r k, f => .del r (k.bind f)
 | .mk r rt k, f => .mk r rt (k.bind f)
 | .peek r k, f => .peek r fun rt => (k rt).bind f
instance : Monad Pr where
 pure := Pr.ret
 bind := Pr.bind
def ofOpt {α : Type} : Option α → Pr α
 | some a => .ret a
 | none => .fail
def run {α : Type} : Pr α → Tab → Option (α × Tab)
 | .ret a, R => some (a, R)
 | .fail, _ => none
 | .get r k, R => match R[r]? with
  | some (.live rt) => (k rt).run R
  | _ => none
 | .put r rt k, R => match R[r]? with
  | some (.live _) => k.run (R.set r (.live rt))
  | _ => none
 | .del r k, R => match R[r]? with
  | some (.live _) => k.run (R.set r .dead)
  | _ => none
 | .mk r rt k, R => match R[r]? with
  | some .fresh => k.run (R.set r (.live rt))
  | _ => none
 | .peek r k, R => match R[r]? with
  | some (.live rt) => (k (some rt)).run R
  | some .dead => (k none).run R
  | _ => none
def touched {α : Type} : Pr α → Tab → List Nat
 | .ret _, _ => []
 | .fail, _ => []
 | .get r k, R => match R[r]? with
  | some (.live rt) => r :: (k rt).touched R
  | _ => []
 | .put r rt k, R => match R[r]? with
  | some (.live _) => r :: k.touched (R.set r (.live rt))
  | _ => []
 | .del r k, R => match R[r]? with
  | some (.live _) => r :: k.touched (R.set r .dead)
  | _ => []
 | .mk r rt k, R => match R[r]? with
  | some .fresh => r :: k.touched (R.set r (.live rt))
  | _ => []
 | .peek r k, R => match R[r]? with
  | some (.live rt) => r :: (k (some rt)).touched R
  | some .dead => r :: (k none).touched R
  | _ => []
def changed {α : Type} : Pr α → Tab → List Nat
 | .ret _, _ => []
 | .fail, _ => []
 | .get r k, R => match R[r]? with
  | some (.live rt) => (k rt).changed R
  | _ => []
 | .put r rt k, R => match R[r]? with
  | some (.live _) => r :: k.changed (R.set r (.live rt))
  | _ => []
 | .del r k, R => match R[r]? with
  | some (.live _) => r :: k.changed (R.set r .dead)
  | _ => []
 | .mk r rt k, R => match R[r]? with
  | some .fresh => r :: k.changed (R.set r (.live rt))
  | _ => []
 | .peek r k, R => match R[r]? with
  | some (.live rt) => (k (some rt)).changed R
  | some .dead => (k none).changed R
  | _ => []
end Pr
def zor : Value → B
 | .slice none 0 0 => .ro 0 [] true true
 | x => .v x
def B.shut : B → B
 | .ro n cs _ lo => .ro n cs false lo
 | x => x
def zsh (x : Value) : B := (zor x).shut
def zn9 : Value → V
 | .agg cs => .g (.ag (cs.toList.map zor))
 | x => .g (.b (zor x))
def evOf (s : Nat → Option V) : Operand → Option V
 | .tmp t => s t
 | .const x => some (zn9 x)
 | .func f => some (.g (.b (.v (.func (.func f) #[] #[]))))
 | .global _ => none
def B.conc : B → Option Value
 | .v x => some x
 | _ => none
def zkz : List B → Option (List Value)
 | [] => some []
 | x :: xs => match x.conc, zkz xs with
  | some v, some vs => some (v :: vs)
  | _, _ => none
def G.conc : G → Option Value
 | .b x => x.conc
 | .ag xs => (zkz xs).map fun l => .agg l.toArray
def V.conc : V → Option Value
 | .g x => x.conc
 | _ => none
def za0y : Value → G
 | .agg cs => .ag (cs.toList.map .v)
 | x => .b (.v x)
def lift (x : Value) : V := .g (za0y x)
def zbb {α : Type} (P : Program) : Sem α → Option α
 | .pure a => some a
 | .program k => zbb P (k P)
 | .mark _ k => zbb P k
 | _ => none
def zhi (ev : Operand → Option V) : List Operand → Bool
 | [] => true
 | x :: xs => ((ev x).bind V.conc).isSome && zhi ev xs
def zde (ev : Operand → Option V) (x : Operand) : Value := ((ev x).bind V.conc).getD undef
def zc6 (P : Program) (o : Oper) (ev : Operand → Option V) : Option V :=
 if zhi ev o.op.operands.toList then
  match o.op with
  | .select .. => none
  | _ => match zbb P (execOp (zde ev) o) with
   | some (.value y) => some (lift y)
   | _ => none
 else none
def C.toB : C → B
 | .v x => .v x
 | .sl lo n xs => .ro n (xs.map .v) false lo
def zyo : List C → Option (List Value)
 | [] => some []
 | .v x :: cs => (zyo cs).map (x :: ·)
 | .sl .. :: _ => none
def B.toC : B → Option C
 | .v x => some (.v x)
 | .ro n cs _ lo => (zyo cs).map (.sl lo n)
 | _ => none
def toCs : List B → Option (List C)
 | [] => some []
 | x :: xs => match x.toC, toCs xs with
  | some c, some cs => some (c :: cs)
  | _, _ => none
def B.isCell : B → Bool
 | .v (.agg _) | .v (.tuple _) | .dead => false
 | _ => true
def ptsB : List G → Option (List (Nat × Nat × Nat))
 | [] => some []
 | .b (.pt r g off) :: rest => (ptsB rest).map ((r, g, off) :: ·)
 | _ :: _ => none
def V.cells : V → Option (List B)
 | .cl f caps => (ptsB caps).map fun ps => [.clo f ps]
 | .g (.b x) => if x.isCell then some [x] else none
 | .g (.ag xs) => if xs.all B.isCell then some xs else none
 | _ => none
def win {α : Type} (cs : List α) (off n : Nat) : List α := (cs.drop off).take n
def content (x : B) : Pr (List B) :=
 match x with
 | .ro n cs _ _ => .ret (cs.map C.toB)
 | .rf r g off len => .get r fun rt =>
   if rt.g = g ∧ (off + len) * rt.es ≤ rt.cells.length then .ret (win rt.cells (off * rt.es) (len * rt.es)) else .fail
 | _ => .fail
def zlp (x : B) : Pr B :=
 match x with
 | .v x => .ret (.v x)
 | .ro n cs _ lo => .ret (.ro n cs false lo)
 | .rf r g off len => (content (.rf r g off len)).bind fun l =>
   match zkz l with
   | some vs => .del r (.ret (.ro len (vs.map .v) false true))
   | none => .fail
 | _ => .fail
def zlq : List B → Pr (List B)
 | [] => .ret []
 | x :: xs => (zlp x).bind fun y => (zlq xs).bind fun ys => .ret (y :: ys)
def B.closed : B → Bool
 | .v _ => true
 | .ro _ _ ex _ => !ex
 | _ => false
def zfk (l : List B) : Pr (List B) := if l.all B.closed then .ret l else zlq l
def zar (P : Program) (t : TypeId) : Option TypeId :=
 match P.underlying t with
 | some (.slice e) => some e
 | _ => none
def zeroCells (P : Program) (t : TypeId) : Option (List B) :=
 ((P.info? t).bind (·.zero)).map fun z => z.cells.toList.map zor
def zjc (P : Program) (t : TypeId) : Option (List B) :=
 ((P.info? t).bind (·.zero)).map fun z => z.cells.toList.map zsh
def zl1 (P : Program) (t : TypeId) : Bool :=
 match P.underlying t with
 | some (.struct _) | some (.array _ _) => true
 | _ => false
def zgv (zb2 : Nat → Option (Nat × Nat)) (cells : List B) : List (Nat × List B) → Option (List B)
 | [] => some cells
 | (i, p) :: rest =>
  match zb2 i with
  | some (off, size) =>
   if p.length = size ∧ off + size ≤ cells.length then zgv zb2 (cells.take off ++ (p ++ cells.drop (off + size))) rest else none
  | none => none
def zfd (ev : Operand → Option V) : List (Nat × Operand) → Option (List (Nat × List B))
 | [] => some []
 | (i, x) :: rest => match (ev x).bind V.cells, zfd ev rest with
  | some p, some ps => some ((i, p) :: ps)
  | _, _ => none
def zg7 : List (Nat × List B) → Pr (List (Nat × List B))
 | [] => .ret []
 | (i, p) :: rest => (zfk p).bind fun q => (zg7 rest).bind fun qs => .ret ((i, q) :: qs)
def zpi (P : Program) (t : TypeId) (cells : List B) : Root :=
 match P.underlying t with
 | some (.array _ e) => ⟨0, P.cellsOf e, true, cells.map B.shut⟩
 | _ => ⟨0, cells.length, false, cells⟩
def ztl : Option V → Option Int
 | some (.g (.b (.v (.int _ n)))) => some n
 | _ => none
def zbx (ev : Operand → Option V) (dflt : Nat) : Option Operand → Option Nat
 | none => some dflt
 | some x => match ztl (ev x) with
  | some n => if 0 ≤ n then some n.toNat else none
  | none => none
def za9 : List B → Option (List UInt8)
 | [] => some []
 | .v (.int .u8 n) :: rest => (za9 rest).map (UInt8.ofNat n.toNat :: ·)
 | _ => none
def zda : Nat := 2 ^ 47
def zsg (P : Program) (t : TypeId) (x : Operand) (y : Option V) (base : Nat) : Pr V :=
 match x with
 | .const (.slice none 0 0) => match zar P t with
  | some e => if 0 < P.cellsOf e then .mk base ⟨0, P.cellsOf e, true, []⟩ (.ret (.g (.b (.rf base 0 0 0)))) else .fail
  | none => .ofOpt y
 | _ => .ofOpt y
def zfb (P : Program) (t : TypeId) (p : Option V) : Pr V :=
 match p with
 | some (.g (.b (.pt r g off))) => .get r fun rt =>
   if rt.g = g ∧ (P.underlying t).isSome then
    if zl1 P t then
     if off + P.cellsOf t ≤ rt.cells.length then .ret (.g (.ag (win rt.cells off (P.cellsOf t)))) else .fail
    else match rt.cells[off]? with
     | some c => .ret (.g (.b c))
     | none => .fail
   else .fail
 | some (.g (.b (.pr cs lo))) =>
   if (P.underlying t).isNone then .fail else
   if zl1 P t then
    if P.cellsOf t ≤ cs.length then .ret (.g (.ag ((cs.take (P.cellsOf t)).map C.toB))) else .fail
   else match cs with
    | c :: _ => .ret (.g (.b c.toB))
    | [] => .fail
 | _ => .fail
def zgw (P : Program) (t : TypeId) (p x : Option V) : Pr V :=
 match p, x.bind V.cells with
 | some (.g (.b (.pt r g off))), some cs => .get r fun rt0 =>
   (if rt0.row then zfk cs else .ret cs).bind fun cs => .get r fun rt =>
    if rt.g = g ∧ (P.info? t).isSome ∧ cs.length = P.cellsOf t ∧ off + cs.length ≤ rt.cells.length then
     .put r { rt with cells := rt.cells.take off ++ (cs ++ rt.cells.drop (off + cs.length)) } (.ret (.g (.b .dead)))
    else .fail
 | _, _ => .fail
def zfn (P : Program) (s : TypeId) (x : Option V) (f : Nat) : Pr V :=
 match P.underlying s with
 | some (.struct fields) => match fields[f]? with
  | some fl => if P.cellsOf fl.type = 0 then .fail else
   match x with
   | some (.g (.b (.pt r g off))) => .ret (.g (.b (.pt r g (off + fl.offset))))
   | some (.g (.b (.pr cs lo))) => .ret (.g (.b (.pr (cs.drop fl.offset) lo)))
   | _ => .fail
  | none => .fail
 | _ => .fail
def zfo (P : Program) (t : TypeId) (x i : Option V) : Pr V :=
 match zar P t, ztl i with
 | some e, some n =>
  match x with
  | some (.g (.b (.rf r g off len))) => .get r fun rt =>
    if rt.g = g ∧ rt.es = P.cellsOf e ∧ 0 ≤ n ∧ n < len then .ret (.g (.b (.pt r g ((off + n.toNat) * rt.es)))) else .fail
  | some (.g (.b (.ro len cs _ lo))) =>
    if 0 < P.cellsOf e ∧ 0 ≤ n ∧ n < len ∧ n.toNat * P.cellsOf e < cs.length then .ret (.g (.b (.pr (cs.drop (n.toNat * P.cellsOf e)) lo))) else .fail
  | _ => .fail
 | _, _ => .fail
def zje (P : Program) (o : Oper) (ev : Operand → Option V) (t : TypeId) (x : Operand) (lo hi mx : Option Operand) : Pr V :=
 match zar P t with
 | none => .ofOpt (zc6 P o ev)
 | some e =>
  match ev x with
  | some (.g (.b (.rf r g off len))) =>
   match mx, zbx ev 0 lo, zbx ev len hi with
   | none, some l, some h => .get r fun rt =>
     if rt.g = g ∧ rt.es = P.cellsOf e ∧ l ≤ h ∧ h ≤ len then
      .ret (.g (.b (.rf r g (off + l) (h - l)))) else .fail
   | _, _, _ => .fail
  | some (.g (.b (.ro n cs ex lk))) =>
   match zbx ev 0 lo, zbx ev n hi with
   | some l, some h =>
    match mx with
    | none => if 0 < P.cellsOf e ∧ l ≤ h ∧ h ≤ n then .ret (.g (.b (.ro (h - l) (win cs (l * P.cellsOf e) ((h - l) * P.cellsOf e)) (ex && hi.isNone) lk))) else .fail
    | some _ => match zbx ev n mx with
     | some m => if 0 < P.cellsOf e ∧ l ≤ h ∧ h = m ∧ m ≤ n ∧ hi.isSome then .ret (.g (.b (.ro (h - l) (win cs (l * P.cellsOf e) ((h - l) * P.cellsOf e)) true lk))) else .fail
     | none => .fail
   | _, _ => .fail
  | _ => .fail
def lenB : Option V → Option Nat
 | some (.g (.b (.rf _ _ _ n))) => some n
 | some (.g (.b (.ro n _ _ _))) => some n
 | _ => none
def zig (P : Program) (t tx : TypeId) (s x : Option V) (base : Nat) : Pr V :=
 match zar P t, zar P tx, s, x with
 | some e, some _, some (.g (.b s)), some (.g (.b x)) =>
  match lenB (some (.g (.b x))) with
  | none => .fail
  | some n =>
  (content x).bind fun new =>
   if new.length = n * P.cellsOf e ∧ 0 < P.cellsOf e ∧ (zeroCells P e).map (·.length) = some (P.cellsOf e) then
   (zfk new).bind fun new =>
   if new.all B.isCell then
   match s with
   | .rf r g off len => .get r fun rt =>
     if rt.g = g ∧ rt.es = P.cellsOf e ∧ (off + len) * rt.es ≤ rt.cells.length ∧ rt.row ∧ 2 * ((len + n) * (P.bytesOf e + 1)) ≤ zda then
      .put r { rt with g := g + 1, cells := win rt.cells (off * rt.es) (len * rt.es) ++ new } (.ret (.g (.b (.rf r (g + 1) 0 (len + n)))))
     else .fail
   | .ro len cs true lo =>
     if cs.length = len * P.cellsOf e ∧ 2 * ((len + n) * (P.bytesOf e + 1)) ≤ zda then
      (if n = 0 ∧ len ≠ 0 then .ret (.g (.b (.ro len cs true lo)))
       else .mk base ⟨0, P.cellsOf e, true, cs.map C.toB ++ new⟩ (.ret (.g (.b (.rf base 0 0 (len + n))))))
     else .fail
   | _ => .fail
   else .fail
   else .fail
 | _, _, _, _ => .fail
def zfp (P : Program) (t : TypeId) (len cap : Option V) (base : Nat) : Pr V :=
 match zar P t, ztl len, ztl cap with
 | some e, some l, some c =>
  match zjc P e with
  | some z => if z.length = P.cellsOf e ∧ 0 < P.cellsOf e ∧ 0 ≤ l ∧ l ≤ c ∧ c.toNat * (P.bytesOf e + 1) ≤ zda then
    .mk base ⟨0, P.cellsOf e, true, (List.replicate c.toNat z).flatten⟩ (.ret (.g (.b (.rf base 0 0 l.toNat))))
   else .fail
  | none => .fail
 | _, _, _ => .fail
def zfa (P : Program) (o : Oper) (ev : Operand → Option V) (src dst : TypeId) (x : Operand) (base : Nat) : Pr V :=
 match P.underlying src, P.underlying dst, ev x with
 | some .string, some (.slice e), some (.g (.b (.v (.string s)))) =>
  match P.underlying e with
  | some (.int .u8) => if s.size ≤ zda then .ret (.g (.b (.ro s.size (s.data.toList.map fun b => .v (.int .u8 b.toNat)) false true))) else .fail
  | _ => .fail
 | some (.slice e), some .string, some (.g (.b y)) =>
  match P.underlying e with
  | some (.int .u8) => (content y).bind fun l => match za9 l, lenB (some (.g (.b y))) with
   | some bs, some n => if bs.length = n then .ret (.g (.b (.v (.string ⟨bs.toArray⟩)))) else .fail
   | _, _ => .fail
  | _ => .fail
 | _, _, _ => .ofOpt (zc6 P o ev)
def zg3 (cells : List B) (off : Nat) (p : List B) : List B := cells.take off ++ (p ++ cells.drop (off + p.length))
def zli (P : Program) (t : TypeId) (x : Option V) : Pr V :=
 match zar P t, x with
 | some e, some (.g (.b (.rf r g off len))) => match zjc P e with
  | some z => .get r fun rt =>
   if rt.g = g ∧ rt.row = true ∧ z.length = rt.es ∧ z.all B.isCell ∧ 0 < len ∧ 0 < rt.es ∧ (off + len) * rt.es ≤ rt.cells.length then
    .put r { rt with cells := zg3 rt.cells (off * rt.es) (List.replicate len z).flatten } (.ret (.g (.b .dead)))
   else .fail
  | none => .fail
 | _, _ => .fail
def zsf (P : Program) (t : TypeId) (d s : Option V) : Pr V :=
 match zar P t, d, s with
 | some e, some (.g (.b (.rf r g off len))), some (.g (.b s)) =>
  match lenB (some (.g (.b s))) with
  | some m => (content s).bind fun l => .get r fun rt =>
   if rt.g = g ∧ rt.row = true ∧ rt.es = P.cellsOf e ∧ 0 < min m len ∧ 0 < rt.es ∧ l.length = m * rt.es ∧ l.all B.closed ∧ l.all B.isCell ∧ (off + len) * rt.es ≤ rt.cells.length then
    .put r { rt with cells := zg3 rt.cells (off * rt.es) (l.take (min m len * rt.es)) } (.ret (.g (.b (.v (.int .i64 (min m len : Nat))))))
   else .fail
  | none => .fail
 | _, _, _ => .fail
def zim (ev : Operand → Option V) : List Operand → Option (List G)
 | [] => some []
 | x :: xs => match ev x, zim ev xs with
  | some (.g y), some ys => some (y :: ys)
  | _, _ => none
def z4y : Value → Value → Option Bool
 | .int k a, .int k' b => if k = k' then some (a == b) else none
 | .bool a, .bool b => some (a == b)
 | .string a, .string b => some (a == b)
 | _, _ => none
def zf1 (P : Program) (t : TypeId) (x : Value) : Bool :=
 match P.underlying t, x with
 | some (.int k), .int k' _ => k == k'
 | some .bool, .bool _ => true
 | some .string, .string _ => true
 | _, _ => false
def zel (P : Program) (xs ys : List B) : List Field → Option Bool
 | [] => some true
 | f :: fs => match xs[f.offset]?.bind B.conc, ys[f.offset]?.bind B.conc with
  | some a, some b => if f.name ≠ "_" ∧ zf1 P f.type a ∧ zf1 P f.type b then
    match z4y a b, zel P xs ys fs with
    | some t, some u => some (t && u)
    | _, _ => none
   else none
  | _, _ => none
def zih (P : Program) (o : Oper) (ev : Operand → Option V) (op : BinOp) (t : TypeId) (x y : Operand) : Pr V :=
 match op, ev x, ev y with
 | .eql, some (.g (.ag xs)), some (.g (.ag ys)) => match P.underlying t with
  | some (.struct fs) => if P.stoodInHeld t = false ∧ P.eqGuardType P.depth t = false then
    match zel P xs ys fs.toList with
    | some r => .ret (.g (.b (.v (.bool r))))
    | none => .fail
   else .fail
  | _ => .fail
 | .neq, some (.g (.ag xs)), some (.g (.ag ys)) => match P.underlying t with
  | some (.struct fs) => if P.stoodInHeld t = false ∧ P.eqGuardType P.depth t = false then
    match zel P xs ys fs.toList with
    | some r => .ret (.g (.b (.v (.bool (!r)))))
    | none => .fail
   else .fail
  | _ => .fail
 | _, _, _ => .ofOpt (zc6 P o ev)
def act (P : Program) (o : Oper) (ev : Operand → Option V) (base : Nat) : Pr V :=
 match o.op with
 | .move x | .assign x => zsg P o.type x (ev x) base
 | .pick c a b => match ev c with
  | some (.g (.b (.v (.bool t)))) => .ofOpt (if t then ev a else ev b)
  | _ => .fail
 | .alloc t => match zeroCells P t with
  | some cs => .mk base (zpi P t cs) (.ret (.g (.b (.pt base 0 0))))
  | none => .fail
 | .box t x => match (ev x).bind V.cells with
  | some cs => .mk base ⟨0, cs.length, false, cs⟩ (.ret (.g (.b (.pt base 0 0))))
  | none => .fail
 | .build t parts => match P.underlying t, zeroCells P t, zfd ev parts.toList with
  | some (.struct fields), some z, some ps =>
   if fields.toList.all (fun f => (P.info? f.type).isSome) then
    match zgv (fun i => (fields[i]?).map fun (f : Field) => (f.offset, P.cellsOf f.type)) z ps with
    | some cs => .ret (.g (.ag cs))
    | none => .fail
   else .fail
  | _, _, _ => .fail
 | .buildSlice t n parts => match zar P t, zfd ev parts.toList with
  | some e, some ps => match zjc P e with
   | some z => if z.length = P.cellsOf e ∧ 0 < P.cellsOf e ∧ n * P.cellsOf e ≤ 2 ^ 24 then
     (zg7 ps).bind fun ps =>
      match zgv (fun i => some (i * P.cellsOf e, P.cellsOf e)) (List.replicate n z).flatten ps with
      | some cs => .mk base ⟨0, P.cellsOf e, true, cs⟩ (.ret (.g (.b (.rf base 0 0 n))))
      | none => .fail
    else .fail
   | none => .fail
  | _, _ => .fail
 | .load t p => zfb P t (ev p)
 | .store t p x => zgw P t (ev p) (ev x)
 | .nilCheck x => match ev x with
  | some (.g (.b (.pt r g off))) => .ret (.g (.b (.pt r g off)))
  | some (.g (.b (.pr cs lo))) => .ret (.g (.b (.pr cs lo)))
  | some (.cl f caps) => .ret (.cl f caps)
  | some (.g (.b (.clo f ps))) => .ret (.g (.b (.clo f ps)))
  | _ => .ofOpt (zc6 P o ev)
 | .convert src dst x => zfa P o ev src dst x base
 | .makeFunc (.func f) first captured =>
  if first.size = 0 ∧ captured.size ≠ 0 then
   match zim ev captured.toList with
   | some caps => .ret (.cl f caps)
   | none => .fail
  else .ofOpt (zc6 P o ev)
 | .makeSlice t l c => zfp P t (ev l) (ev c) base
 | .slice t x lo hi mx => zje P o ev t x lo hi mx
 | .fieldAddr s x f => zfn P s (ev x) f
 | .indexAddr t x i => zfo P t (ev x) (ev i)
 | .extract x i => match ev x with
  | some (.tp xs) => match xs[i]? with
   | some y => .ret (.g y)
   | none => .fail
  | _ => .fail
 | .call { callee := .builtin .len, args, argTypes } =>
  match args[0]?, argTypes[0]?.bind (zar P) with
  | some x, some _ => match lenB (ev x) with
   | some n => .ret (.g (.b (.v (.int .i64 n))))
   | none => .fail
  | _, _ => .ofOpt (zc6 P o ev)
 | .call { callee := .builtin .append, args, argTypes } =>
  match args.toList, argTypes.toList with
  | [s, x], [t, tx] => zig P t tx (ev s) (ev x) base
  | _, _ => .fail
 | .call { callee := .builtin .clear, args, argTypes } =>
  match args.toList, argTypes.toList with
  | [x], [t] => zli P t (ev x)
  | _, _ => .fail
 | .call { callee := .builtin .copy, args, argTypes } =>
  match args.toList, argTypes.toList with
  | [d, s], [t, _] => zsf P t (ev d) (ev s)
  | _, _ => .fail
 | .call { callee := .builtin .min, .. } | .call { callee := .builtin .max, .. } => .ofOpt (zc6 P o ev)
 | .binOp op t x y _ => zih P o ev op t x y
 | .unOp .. | .index .. => .ofOpt (zc6 P o ev)
 | _ => .fail
def zatx : B → List Nat
 | .rf r _ _ _ => [r]
 | .pt r _ _ => [r]
 | .clo _ ps => ps.map (·.1)
 | _ => []
def zaty : G → List Nat
 | .b x => zatx x
 | .ag xs => xs.flatMap zatx
def zatz : V → List Nat
 | .g x => zaty x
 | .cl _ caps => caps.flatMap zaty
 | .tp xs => xs.flatMap zaty
abbrev Ids := List (Nat × Root)
def Root.refs (rt : Root) : List Nat := if rt.row then [] else rt.cells.flatMap zatx
def zj7 : Nat → List Nat → Ids → Pr Ids
 | _, [], acc => .ret acc
 | 0, _ :: _, _ => .fail
 | k + 1, r :: todo, acc =>
  if acc.any (fun p => p.1 == r) then zj7 k todo acc
  else .peek r fun
   | some rt => zj7 k (rt.refs ++ todo) (acc ++ [(r, rt)])
   | none => zj7 k todo acc
def zzs : Nat → Nat → Pr Ids
 | 0, _ => .ret []
 | m + 1, j => .get j fun rt => (zzs m (j + 1)).bind fun ids => .ret ((j, rt) :: ids)
def zcf : Ids → Nat → Nat → Option (Nat × Root)
 | [], _, _ => none
 | (r', rt) :: rest, r, j => if r' = r then some (j, rt) else zcf rest r (j + 1)
def zi1 {α β : Type} (f : α → Option β) : List α → Option (List β)
 | [] => some []
 | x :: xs => match f x, zi1 f xs with
  | some y, some ys => some (y :: ys)
  | _, _ => none
def renP (keep : Nat) (ids : Ids) (p : Nat × Nat × Nat) : Option (Nat × Nat × Nat) := match zcf ids p.1 0 with
 | some (j, rt) => if rt.g = p.2.1 then some (j, if j < keep then min p.2.1 1 else 0, p.2.2) else none
 | none => none
def renB (keep : Nat) (ids : Ids) : B → B
 | .clo f ps => match zi1 (renP keep ids) ps with
  | some qs => .clo f qs
  | none => .dead
 | .rf r g off len => match zcf ids r 0 with
  | some (j, rt) => if rt.g = g then .rf j (if j < keep then min g 1 else 0) off len else .dead
  | none => .dead
 | .pt r g off => match zcf ids r 0 with
  | some (j, rt) => if rt.g = g then .pt j (if j < keep then min g 1 else 0) off else .dead
  | none => .dead
 | x => x
def renG (keep : Nat) (ids : Ids) : G → G
 | .b x => .b (renB keep ids x)
 | .ag xs => .ag (xs.map (renB keep ids))
def renV (keep : Nat) (ids : Ids) : V → V
 | .g x => .g (renG keep ids x)
 | .cl f caps => .cl f (caps.map (renG keep ids))
 | .tp xs => .tp (xs.map (renG keep ids))
def zbn (keep : Nat) (ids : Ids) (j : Nat) (rt : Root) : Root :=
 { rt with g := if j < keep then min rt.g 1 else 0, cells := if rt.row then rt.cells else rt.cells.map (renB keep ids) }
def zcg (keep : Nat) (ids : Ids) : Nat → Ids → Tab
 | _, [] => []
 | j, (_, rt) :: rest => .live (zbn keep ids j rt) :: zcg keep ids (j + 1) rest
def zbjl : Nat := 64
def z7j (m : Nat) (vs : List V) : Pr Ids :=
 (zzs m 0).bind fun ps => zj7 zbjl (ps.flatMap (fun p => p.2.refs) ++ vs.flatMap zatz) ps
def compact (m : Nat) (vs : List V) (R : Tab) : Option (List V × Tab) :=
 match (z7j m vs).run R with
 | some (ids, _) => some (vs.map (renV m ids), zcg m ids 0 ids)
 | none => none
def zaru (x : B) : Pr B :=
 match x with
 | .rf r g off len => zlp (.rf r g off len)
 | .ro n cs _ lo => .ret (.ro n cs false lo)
 | x => .ret x
def zabp : List B → Pr (List B)
 | [] => .ret []
 | x :: xs => (zaru x).bind fun y => (zabp xs).bind fun ys => .ret (y :: ys)
def zaeq (fl : Bool) (x : G) : Pr G :=
 if fl then
  match x with
  | .b x => (zaru x).bind fun y => .ret (.b y)
  | .ag xs => (zabp xs).bind fun ys => .ret (.ag ys)
 else .ret x
def z2s : List Bool → List G → Pr (List G)
 | _, [] => .ret []
 | fl, x :: xs => (zaeq (fl.headD false) x).bind fun y => (z2s fl.tail xs).bind fun ys => .ret (y :: ys)
def zbcv (fl : Bool) (x : V) : Pr V :=
 match x with
 | .g x => (zaeq fl x).bind fun y => .ret (.g y)
 | x => .ret x
def zv5 : List Bool → List V → Pr (List V)
 | _, [] => .ret []
 | fl, x :: xs => (zbcv (fl.headD false) x).bind fun y => (zv5 fl.tail xs).bind fun ys => .ret (y :: ys)
def zzu (mode : Bool) (x : B) : Pr B :=
 match x with
 | .rf r g off len => if mode then .ret (.rf r g off len) else (content (.rf r g off len)).bind fun l =>
   match toCs l with
   | some cs => .ret (.ro len cs false false)
   | none => .fail
 | x => .ret x
def zwk (mode : Bool) : List B → Pr (List B)
 | [] => .ret []
 | x :: xs => (zzu mode x).bind fun y => (zwk mode xs).bind fun ys => .ret (y :: ys)
def zatp (mode : Bool) (x : G) : Pr G :=
 match x with
 | .b x => (zzu mode x).bind fun y => .ret (.b y)
 | .ag xs => (zwk mode xs).bind fun ys => .ret (.ag ys)
def z3u (mode : Bool) : List G → Pr (List G)
 | [] => .ret []
 | x :: xs => (zatp mode x).bind fun y => (z3u mode xs).bind fun ys => .ret (y :: ys)
def zaev (x : B) : Pr B :=
 match x with
 | .pt r g off => .get r fun rt => if rt.g = g then match toCs rt.cells with
   | some cs => .ret (.pr (cs.drop off) false)
   | none => .fail
  else .fail
 | x => zzu false x
def zbc2 (x : G) : Pr G :=
 match x with
 | .b x => (zaev x).bind fun y => .ret (.b y)
 | .ag xs => (zwk false xs).bind fun ys => .ret (.ag ys)
def z3f : List G → Pr (List G)
 | [] => .ret []
 | x :: xs => (zbc2 x).bind fun y => (z3f xs).bind fun ys => .ret (y :: ys)
def zbej (mode : Bool) (x : V) : Pr V :=
 match x with
 | .g x => (zatp mode x).bind fun y => .ret (.g y)
 | .cl f caps => (if mode then z3f caps else z3u false caps).bind fun ys => .ret (.cl f ys)
 | .tp _ => .fail
def ztv : List Bool → List V → Pr (List V)
 | _, [] => .ret []
 | ms, x :: xs => (zbej (ms.headD false) x).bind fun y => (ztv ms.tail xs).bind fun ys => .ret (y :: ys)
def subP (ids : Ids) (base : Nat) (p : Nat × Nat × Nat) : Nat × Nat × Nat := match ids[p.1]? with
 | some (r, rt) => (r, rt.g + p.2.1, p.2.2)
 | none => (base + (p.1 - ids.length), p.2.1, p.2.2)
def subB (ids : Ids) (base : Nat) : B → B
 | .clo f ps => .clo f (ps.map (subP ids base))
 | .rf j g off len => match ids[j]? with
  | some (r, rt) => .rf r (rt.g + g) off len
  | none => .rf (base + (j - ids.length)) g off len
 | .pt j g off => match ids[j]? with
  | some (r, rt) => .pt r (rt.g + g) off
  | none => .pt (base + (j - ids.length)) g off
 | x => x
def subG (ids : Ids) (base : Nat) : G → G
 | .b x => .b (subB ids base x)
 | .ag xs => .ag (xs.map (subB ids base))
def subV (ids : Ids) (base : Nat) : V → V
 | .g x => .g (subG ids base x)
 | .cl f caps => .cl f (caps.map (subG ids base))
 | .tp xs => .tp (xs.map (subG ids base))
def zbp (ids : Ids) (base : Nat) (rt : Root) : Root := { rt with cells := if rt.row then rt.cells else rt.cells.map (subB ids base) }
def zj0 (ids : Ids) (base : Nat) : Ids → Nat → Tab → Pr Unit
 | (r, rt0) :: rest, j, .live rt :: R => .put r { zbp ids base rt with g := rt0.g + rt.g } (zj0 ids base rest j R)
 | (_, _) :: _, _, _ => .fail
 | [], j, .live rt :: R => if j < 4 then .mk (base + j) (zbp ids base rt) (zj0 ids base [] (j + 1) R) else .fail
 | [], _, [] => .ret ()
 | [], _, _ => .fail
def zup (mode : Bool) : B → List Nat
 | .rf r _ _ _ => if mode then [] else [r]
 | _ => []
def zuq (mode : Bool) : G → List Nat
 | .b x => zup mode x
 | .ag xs => xs.flatMap (zup mode)
def zaew : G → List Nat
 | .b (.pt r _ _) => [r]
 | x => zuq false x
def zacs (mode : Bool) : V → List Nat
 | .g x => zuq mode x
 | .cl _ caps => caps.flatMap (if mode then zaew else zuq false)
 | .tp _ => []
def zg1 : List Bool → List V → List Nat
 | _, [] => []
 | ms, x :: xs => zacs (ms.headD false) x ++ zg1 ms.tail xs
def zsk (ids : Ids) (snaps : List Nat) : Bool := snaps.all fun r => !ids.any fun p => p.1 == r
def C.retOK : C → Bool
 | .v _ => true
 | .sl lo _ _ => lo
def B.retOK : B → Bool
 | .ro _ cs _ lo => lo && cs.all C.retOK
 | .pr .. => false
 | _ => true
def G.retOK : G → Bool
 | .b x => x.retOK
 | .ag xs => xs.all B.retOK
def V.retOK : V → Bool
 | .g x => x.retOK
 | .cl _ caps => caps.all G.retOK
 | .tp xs => xs.all G.retOK
def Ent.retOK : Ent → Bool
 | .live rt => rt.cells.all B.retOK
 | _ => true
def z65 (rec : FuncId → List V → Tab → Option (V × Tab)) (gives mode : List Bool) (f : FuncId) (args : List V) (base : Nat) : Pr V :=
 (zv5 gives args).bind fun args => (ztv mode args).bind fun args' => (z7j 0 args').bind fun ids =>
  if zsk ids (zg1 mode args) then
   match rec f (args'.map (renV 0 ids)) (zcg 0 ids 0 ids) with
   | some (res, R) => if res.retOK && R.all Ent.retOK then (zj0 ids base ids 0 R).bind fun _ => .ret (subV ids base res) else .fail
   | none => .fail
  else .fail
structure Env where
 P : Program
 lib : FuncId → Option (List V → Tab → Option (V × Tab))
 modes : FuncId → List Bool
 gives : FuncId → List Bool
 keep : FuncId → Nat → List Nat
def zj5 (ev : Operand → Option V) : List Operand → Option (List V)
 | [] => some []
 | x :: xs => match ev x, zj5 ev xs with
  | some y, some ys => some (y :: ys)
  | _, _ => none
def opP (E : Env) (rec : FuncId → List V → Tab → Option (V × Tab)) (o : Oper) (ev : Operand → Option V) (base : Nat) : Pr V :=
 match o.op with
 | .call { callee := .value x, args, .. } =>
  match ev x, zj5 ev args.toList with
  | some (.g (.b (.v (.func (.func f) first caps)))), some as =>
   if first.size = 0 ∧ caps.size = 0 then z65 rec (E.gives f) (E.modes f) f as base else .fail
  | some (.cl f caps), some as => z65 rec (E.gives f) (E.modes f) f (as ++ caps.map .g) base
  | some (.g (.b (.clo f ps))), some as => z65 rec (E.gives f) (E.modes f) f (as ++ ps.map fun p => .g (.b (.pt p.1 p.2.1 p.2.2))) base
  | _, _ => .fail
 | _ => act E.P o ev base
abbrev zej := List (Nat × V)
def look : zej → Nat → Option V
 | [], _ => none
 | (d, v) :: rest, t => if d = t then some v else look rest t
def putS (s : zej) (dst : Option Tmp) (v : V) : zej :=
 match dst with
 | some d => (d, v) :: s
 | none => s
def need (o : Oper) : Nat :=
 match o.op with
 | .move (.const (.slice none 0 0)) | .assign (.const (.slice none 0 0)) => 1
 | .alloc _ | .box .. | .buildSlice .. | .makeSlice .. | .convert .. => 1
 | .call { callee := .builtin .append, .. } => 1
 | .call { callee := .value _, .. } => 4
 | _ => 0
def zbe : Nat → List Oper → List (Oper × Nat)
 | _, [] => []
 | n, o :: os => (o, n) :: zbe (n + need o) os
def zn8 : List Oper → Nat
 | [] => 0
 | o :: os => need o + zn8 os
def zauh : V := .g (.b (.v (.tuple #[])))
def zc4 (ops : Array Oper) (s : Nat → Option V) (o : Oper) : Option Bool :=
 match o.guard with
 | none => some true
 | some (j, want) => match ((ops[j]?).bind (·.dst)).bind s with
  | some (.g (.b (.v (.bool t)))) => some (t == want)
  | some (.g (.b (.v (.tuple _)))) => some false
  | _ => none
section
variable (E : Env) (rec : FuncId → List V → Tab → Option (V × Tab))
def zgs (ops : Array Oper) : List (Oper × Nat) → zej → Tab → Option (zej × Tab)
 | [], s, R => some (s, R)
 | (o, base) :: rest, s, R =>
  match zc4 ops (look s) o with
  | none => none
  | some false => zgs ops rest (putS s o.dst zauh) R
  | some true => match (opP E rec o (evOf (look s)) base).run R with
   | some (v, R') => zgs ops rest (putS s o.dst v) R'
   | none => none
def prints (ops : Array Oper) : List (Oper × Nat) → zej → Tab → List (List Nat × List Nat)
 | [], _, _ => []
 | (o, base) :: rest, s, R =>
  match zc4 ops (look s) o with
  | none => []
  | some false => ([], []) :: prints ops rest (putS s o.dst zauh) R
  | some true =>
   let p := opP E rec o (evOf (look s)) base
   match p.run R with
   | some (v, R') => (p.touched R, p.changed R) :: prints ops rest (putS s o.dst v) R'
   | none => []
def disj (a b : List Nat) : Bool := a.all fun x => !b.contains x
def zs4 : Nat → List Oper → Bool
 | _, [] => true
 | j, o :: os => o.after.toList.all (fun e => !Region.binds .any e || decide (e.on < j)) && zs4 (j + 1) os
def zipK {α β : Type} : List α → List Nat → (List (α × Nat) → β) → β
 | [], _, k => k []
 | x :: xs, [], k => zipK xs [] fun r => k ((x, 0) :: r)
 | x :: xs, b :: bs, k => CheckFast.force b fun b => zipK xs bs fun r => k ((x, b) :: r)
def zl7 {α : Type} (q : α → α → Bool) (i : Nat) (x : α) : List (α × Nat) → Bool
 | [] => true
 | y :: ys => (y.2.testBit i || q x y.1) && zl7 q i x ys
def zwj {α : Type} (q : α → α → Bool) : Nat → List (α × Nat) → Bool
 | _, [] => true
 | i, x :: xs => zl7 q i x.1 xs && CheckFast.force (i + 1) fun k => zwj q k xs
def zacu (ops : Array Oper) : Bool :=
 zs4 0 ops.toList && zipK ops.toList (CheckFast.beforeL ops.toList 0 []) (zwj (fun x y => x.apart ops y) 0)
def zayc (ops : Array Oper) (ps : List (List Nat × List Nat)) : Bool :=
 ps.all (fun p => p.2.isEmpty) || zipK ps (CheckFast.beforeL ops.toList 0 []) (zwj (fun p q => disj p.2 q.1 && disj q.2 p.1) 0)
inductive Ex where
 | norm
 | exit (id : Nat)
 | ret
def zlv (ops : Array Oper) (draw : Bool) (s : zej) (R : Tab) : Option (zej × Tab) :=
 let R := R ++ List.replicate (zn8 ops.toList) .fresh
 let l := zbe (R.length - zn8 ops.toList) ops.toList
 if draw then
  if zacu ops && zayc ops (prints E rec ops l s R) then zgs E rec ops l s R else none
 else zgs E rec ops l s R
def zc3 : Code → Nat
 | .region id _ _ => id
 | .seq a _ => zc3 a
 | .block _ c => zc3 c
 | _ => 0
def z3a (s : zej) : List Nat → Option (List V)
 | [] => some []
 | t :: ts => match look s t, z3a s ts with
  | some v, some vs => some (v :: vs)
  | _, _ => none
def head (m : Nat) (live : List Nat) (s : zej) (R : Tab) : Option (zej × Tab) :=
 match z3a s live with
 | some vs => match compact m vs R with
  | some (vs, R) => some (live.zip vs, R)
  | none => none
 | none => none
def iter (f : zej → Tab → Option (Ex × zej × Tab)) : Nat → zej → Tab → Option (Ex × zej × Tab)
 | 0, _, _ => none
 | n + 1, s, R => match f s R with
  | some (.norm, s, R) => iter f n s R
  | e => e
def ev (m : Nat) (f : FuncId) (n : Nat) : Code → zej → Tab → Option (Ex × zej × Tab)
 | .skip, s, R => some (.norm, s, R)
 | .region _ ops draw, s, R => match zlv E rec ops draw s R with
  | some (s, R) => some (.norm, s, R)
  | none => none
 | .seq a b, s, R => match ev m f n a s R with
  | some (.norm, s, R) => ev m f n b s R
  | e => e
 | .cond c x y, s, R => match evOf (look s) c with
  | some (.g (.b (.v (.bool t)))) => if t then ev m f n x s R else ev m f n y s R
  | _ => none
 | .block id c, s, R => match ev m f n c s R with
  | some (.exit i, s, R) => if i = id then some (.norm, s, R) else some (.exit i, s, R)
  | e => e
 | .loop c, s, R => iter (fun s R => match head m (E.keep f (zc3 c)) s R with
   | some (s, R) => ev m f n c s R
   | none => none) n s R
 | .exit id, s, R => some (.exit id, s, R)
 | .ret, s, R => some (.ret, s, R)
 | _, _, _ => none
end
def zep (P : Program) (s : zej) : List ResultVar → Pr (List G)
 | [] => .ret []
 | .tmp t :: rest => match look s t with
  | some (.g x) => (zep P s rest).bind fun xs => .ret (x :: xs)
  | _ => .fail
 | .cell a t :: rest => match look s a with
  | some (.g (.b (.pt r g off))) => (zfb P t (some (.g (.b (.pt r g off))))).bind fun
   | .g x => (zep P s rest).bind fun xs => .ret (x :: xs)
   | _ => .fail
  | _ => .fail
def zk7 : List G → V
 | [x] => .g x
 | xs => .tp xs
def zuo : Nat → List V → zej
 | _, [] => []
 | t, v :: vs => (t, v) :: zuo (t + 1) vs
end Go.Gm
