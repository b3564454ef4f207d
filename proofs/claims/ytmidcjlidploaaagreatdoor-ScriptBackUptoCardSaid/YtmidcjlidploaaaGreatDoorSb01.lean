/- Texts joined by a program: AwCore. -/
import Derived.StillTail
import Derived.WalkKit
import Derived.Deep.Quiet
import Derived.Deep.QuietTactic
import Derived.Maps.AppendAt
import Derived.Laws.BytesArg

set_option linter.unusedSimpArgs false
set_option linter.unusedVariables false
namespace Go.Aw
open Go.RowKit
inductive AV where
  | v (x : Value)
  | any
  | sl (es : List (List AV))
  | rp (cs : List AV) (off : Nat)
  | agg (cs : List AV)
  | tup (vs : List AV)
  | os (k : Nat)
  | op (k i f : Nat)
  | gd (g : Bool) (x : AV)
  | fn (f : FuncId) (cap : List AV)
  | oz (k a b : Nat)
  | nf (x : AV)
  | om (k : Nat)
  | cl (es : List (List AV))
  deriving Inhabited
structure Row where
  e : TypeId
  sz : Nat
  es : List (List AV)
abbrev Env := Nat → AV
abbrev Heap := Nat → Option Row
inductive Ex where
  | normal
  | exit (id : Nat)
  | ret
def upd (ρ : Env) (d : Option Nat) (x : AV) : Env :=
  match d with
  | some d => fun t => if t = d then x else ρ t
  | none => ρ
def updH (H : Heap) (k : Nat) (r : Option Row) : Heap := fun j => if j = k then r else H j
theorem upd_at (ρ : Env) (d : Nat) (x : AV) (t : Nat) : upd ρ (some d) x t = if t = d then x else ρ t := rfl
theorem upd_none (ρ : Env) (x : AV) : upd ρ none x = ρ := rfl
theorem updH_same (H : Heap) (k : Nat) (r : Option Row) : updH H k r k = r := by simp [updH]
theorem updH_ne (H : Heap) (k : Nat) (r : Option Row) (j : Nat) (h : j ≠ k) : updH H k r j = H j := by simp [updH, h]
def ldT (P : Program) (t : TypeId) : Option (Option Nat) :=
  match P.underlying t, P.info? t with
  | some (.struct _), some i => some (some i.size)
  | some (.array _ _), some i => some (some i.size)
  | some _, some _ => some none
  | _, _ => none
def fieldOff (P : Program) (t : TypeId) (f : Nat) : Option (Nat × Option Nat) :=
  match P.underlying t with
  | some (.struct fs) => match fs[f]? with
    | some fd => match P.info? fd.type with
      | some i => if i.size = 0 then none else (ldT P fd.type).map fun l => (fd.offset, l)
      | none => none
    | none => none
  | _ => none
def elemT (P : Program) (t : TypeId) : Option (TypeId × Nat × Nat) :=
  match P.underlying t with
  | some (.slice e) => match P.info? e with
    | some i => if i.size = 0 ∨ i.bytes = 0 ∨ i.zero.map (·.cells.size) ≠ some i.size then none else some (e, i.size, i.bytes)
    | none => none
  | _ => none
def arrT (P : Program) (t : TypeId) : Option (Nat × Nat × Option Nat) :=
  match P.underlying t with
  | some (.array n e) => match P.info? e with
    | some i => if i.size = 0 then none else (ldT P e).map fun l => (n, i.size, l)
    | none => none
  | _ => none
def zeroV : Value → AV
  | .slice none 0 0 => .sl []
  | x => .v x
def zeroT (P : Program) (t : TypeId) : Option (List AV) :=
  match P.info? t with
  | some i => match i.zero with
    | some z => if z.cells.size = i.size ∧ i.size ≠ 0 ∧ z.cells.toList.all (·.oneCell') = true then some (z.cells.toList.map zeroV) else none
    | none => none
  | none => none
def nilsOf (P : Program) : Nat → TypeId → Nat → List (Nat × TypeId × Nat)
  | 0, _, _ => []
  | n + 1, t, o => match P.underlying t with
    | some (.slice _) => match elemT P t with
      | some (e, sz, _) => [(o, e, sz)]
      | none => []
    | some (.struct fs) => fs.toList.flatMap fun f => nilsOf P n f.type (o + f.offset)
    | some (.array m e) => (List.range m).flatMap fun j => nilsOf P n e (o + j * ((P.info? e).map (·.size)).getD 0)
    | _ => []
def isNilV : Option Value → Bool
  | some (.slice none 0 0) => true
  | _ => false
def nilsT (P : Program) (t : TypeId) : Option (List (Nat × TypeId × Nat)) :=
  match P.info? t with
  | some i => match i.zero with
    | some z => if (nilsOf P 8 t 0).all (fun x => isNilV z.cells.toList[x.1]? && decide (0 < x.2.2)) = true then some (nilsOf P 8 t 0) else none
    | none => none
  | none => none
def partsT (P : Program) (t : TypeId) : Option (List (Nat × Nat)) :=
  match P.underlying t with
  | some (.struct fs) => fs.toList.mapM fun f => (P.info? f.type).map fun i => (f.offset, i.size)
  | some (.array n e) => (P.info? e).map fun i => (List.range n).map fun j => (j * i.size, i.size)
  | _ => none
def isStringT (P : Program) (t : TypeId) : Bool := match P.underlying t with | some .string => true | _ => false
def isSliceT (P : Program) (t : TypeId) : Bool := match P.underlying t with | some (.slice _) => true | _ => false
def isBoolT (P : Program) (t : TypeId) : Bool := match P.underlying t with | some .bool => true | _ => false
def isPtrT (P : Program) (t : TypeId) : Bool := match P.underlying t with | some (.pointer _) => true | _ => false
def isPtr1T (P : Program) (t : TypeId) : Bool := match P.underlying t with | some (.pointer e) => (P.info? e).isSome | _ => false
def ptrNil : AV → Option Bool
  | .v (.pointer none) => some true
  | .rp .. => some false
  | .op .. => some false
  | _ => none
def aev (ρ : Env) : Operand → AV
  | .tmp t => ρ t
  | .const v => zeroV v
  | .global _ => .any
  | .func f => .v (.func (.func f) #[] #[])
def aevn (ρ : Env) : Operand → AV
  | .const v => .v v
  | x => aev ρ x
def gt : Option Bool → Prop
  | none => True
  | some b => b = true
def gok : Option Bool → Bool → Prop
  | none, g => g = true
  | some b, g => b = true → g = true
def wr : Option Bool → AV → AV
  | none, x => x
  | some b, x => .gd b x
def wopd (G : Option Bool) (x : AV) (k : AV → Prop) : Prop :=
  match x with
  | .gd g y => gok G g ∧ k y
  | x => k x
def wcells (x : AV) (K : List AV → Prop) : Prop :=
  match x with
  | .agg cs => K cs
  | .v y => y.oneCell' = true ∧ K [.v y]
  | .sl es => K [.sl es]
  | .rp cs o => K [.rp cs o]
  | .os k => K [.os k]
  | .op k i f => K [.op k i f]
  | .oz k a b => K [.oz k a b]
  | .om k => K [.om k]
  | _ => False
def kindT (P : Program) (t : TypeId) : Option Nat := match P.underlying t with | some (.int _) => some 0 | some .string => some 1 | some .bool => some 2 | _ => none
def eqCell (c : Nat) (x y : AV) : Option Bool :=
  match c, x, y with
  | 0, .v (.int k a), .v (.int k' b) => if k = k' then some (a == b) else none
  | 1, .v (.string a), .v (.string b) => some (a.toList == b.toList)
  | 2, .v (.bool a), .v (.bool b) => some (a == b)
  | _, _, _ => none
def andO : Option Bool → Option Bool → Option Bool
  | some a, some b => some (a && b)
  | _, _ => none
def eqCells : List Nat → List AV → List AV → Option Bool
  | [], [], [] => some true
  | c :: l, x :: r, y :: s => andO (eqCell c x y) (eqCells l r s)
  | _, _, _ => none
def flatFields (P : Program) : Nat → List Field → Option (List Nat)
  | _, [] => some []
  | o, f :: r => if f.name != "_" && f.offset == o && (P.info? f.type).isSome then match kindT P f.type, flatFields P (o + 1) r with
    | some c, some l => some (c :: l)
    | _, _ => none
    else none
def flatT (P : Program) (t : TypeId) : Option (List Nat) :=
  match P.underlying t with
  | some (.struct fs) => if P.stoodInHeld t = false ∧ P.eqGuardType P.depth t = false then flatFields P 0 fs.toList else none
  | some (.array n e) => if (P.info? e).map (·.size) = some 1 ∧ P.eqGuardType P.depth t = false then (kindT P e).map (List.replicate n) else none
  | _ => none
def isSh : BinOp → Bool
  | .shl => true
  | .shr => true
  | _ => false
def shV (op : BinOp) (k : IntKind) (a b : Int) : Int := match op with
  | .shl => k.wrap (a * 2 ^ min b.toNat k.bits)
  | _ => a.fdiv (2 ^ min b.toNat k.bits)
def bitV (op : BinOp) (k : IntKind) (a b : Int) : Int := match op with
  | .and => k.wrap ((BitVec.ofInt k.bits a &&& BitVec.ofInt k.bits b).toNat : Nat)
  | .or => k.wrap ((BitVec.ofInt k.bits a ||| BitVec.ofInt k.bits b).toNat : Nat)
  | .xor => k.wrap ((BitVec.ofInt k.bits a ^^^ BitVec.ofInt k.bits b).toNat : Nat)
  | _ => k.wrap ((BitVec.ofInt k.bits a &&& ~~~(BitVec.ofInt k.bits b)).toNat : Nat)
def abin (P : Program) (G : Option Bool) (op : BinOp) (t : TypeId) (x y : AV) (K : AV → Prop) : Prop :=
  match x, y with
  | .v (.int k a), .v (.int k' b) =>
    if isSh op = true then (gt G → 0 ≤ b) ∧ K (.v (.int k (shV op k a b)))
    else if k = k' then
      match op with
      | .and => K (.v (.int k (bitV .and k a b)))
      | .or => K (.v (.int k (bitV .or k a b)))
      | .xor => K (.v (.int k (bitV .xor k a b)))
      | .andNot => K (.v (.int k (bitV .andNot k a b)))
      | .add => K (.v (.int k (k.wrap (a + b))))
      | .sub => K (.v (.int k (k.wrap (a - b))))
      | .mul => K (.v (.int k (k.wrap (a * b))))
      | .quo => (gt G → b ≠ 0) ∧ K (.v (.int k (k.wrap (a.tdiv b))))
      | .rem => (gt G → b ≠ 0) ∧ K (.v (.int k (a.tmod b)))
      | .eql => K (.v (.bool (a == b)))
      | .neq => K (.v (.bool (a != b)))
      | .lss => K (.v (.bool (decide (a < b))))
      | .leq => K (.v (.bool (decide (a ≤ b))))
      | .gtr => K (.v (.bool (decide (a > b))))
      | .geq => K (.v (.bool (decide (a ≥ b))))
      | _ => False
    else False
  | .v (.string a), .v (.string b) =>
    match op with
    | .add => (gt G → ((a.size + b.size : Nat) : Int) ≤ IntKind.i64.max) ∧ K (.v (.string (a ++ b)))
    | .eql => K (.v (.bool (a.toList == b.toList)))
    | .neq => K (.v (.bool !(a.toList == b.toList)))
    | .lss => K (.v (.bool (Op.bytesLess a.toList b.toList)))
    | _ => False
  | .v (.bool a), .v (.bool b) =>
    if isBoolT P t then
      match op with
      | .eql => K (.v (.bool (a == b)))
      | .neq => K (.v (.bool !(a == b)))
      | _ => False
    else False
  | .agg xs, .agg ys => match flatT P t with
    | some l => match eqCells l xs ys with
      | some b => match op with
        | .eql => K (.v (.bool b))
        | .neq => K (.v (.bool !b))
        | _ => False
      | none => False
    | none => False
  | .op a b c, .op a' b' c' => if a = a' ∧ b = b' ∧ c = c' ∧ isPtr1T P t = true then
      match op with
      | .eql => K (.v (.bool true))
      | .neq => K (.v (.bool false))
      | _ => False
    else (gt G → False) ∧ K .any
  | x, .v (.pointer none) => match ptrNil x with
    | some b => if isPtrT P t then
        match op with
        | .eql => K (.v (.bool b))
        | .neq => K (.v (.bool !b))
        | _ => False
      else False
    | none => (gt G → False) ∧ K .any
  | _, _ => (gt G → False) ∧ K .any
def mapT (P : Program) (t : TypeId) : Option (TypeId × TypeId) := match P.underlying t with | some (.map k e) => some (k, e) | _ => none
def zeroE (P : Program) (t : TypeId) : Option AV :=
  match P.info? t with
  | some i => match i.zero with
    | some (.agg cs) => if cs.toList.all (·.oneCell') = true then some (.agg (cs.toList.map zeroV)) else none
    | some v => if v.oneCell' = true then some (zeroV v) else none
    | none => none
  | none => none
def keyEq (P : Program) (kt : TypeId) (x y : AV) : Option Bool :=
  match x, y with
  | .v a, .v b => match kindT P kt with
    | some c => eqCell c (.v a) (.v b)
    | none => none
  | .agg xs, .agg ys => match flatT P kt with
    | some l => eqCells l xs ys
    | none => none
  | _, _ => none
def isStructT (P : Program) (t : TypeId) : Bool := match P.underlying t with | some (.struct _) => true | _ => false
def plainKey (P : Program) (kt : TypeId) : AV → Bool
  | .v (.int _ _) => kindT P kt == some 0
  | .v (.string _) => kindT P kt == some 1
  | .v (.bool _) => kindT P kt == some 2
  | .agg xs => isStructT P kt && match flatT P kt with | some l => eqCells l xs xs == some true | none => false
  | _ => false
def mfind (eq : AV → Option Bool) : List (List AV) → Nat → Option (Option Nat)
  | [], _ => some none
  | e :: r, i => match eq (e.getD 0 .any) with
    | some true => some (some i)
    | some false => mfind eq r (i + 1)
    | none => none
def mget (ok : Bool) (z : AV) (es : List (List AV)) (oi : Option Nat) : AV :=
  match oi with
  | some i => if ok = true then .tup [(es.getD i []).getD 1 .any, .v (.bool true)] else (es.getD i []).getD 1 .any
  | none => if ok = true then .tup [z, .v (.bool false)] else z
def mput (es : List (List AV)) (oi : Option Nat) (k v : AV) : List (List AV) :=
  match oi with
  | some i => es.set i [k, v]
  | none => es ++ [[k, v]]
def mapOf (P : Program) (H : Heap) (t : TypeId) (x key : AV) (K : Nat → Row → TypeId × TypeId → Option Nat → Prop) : Prop :=
  match x with
  | .om j => match H j, mapT P t with
    | some r, some kt => match mfind (keyEq P kt.1 key) r.es 0 with
      | some oi => plainKey P kt.1 key = true ∧ K j r kt oi
      | none => False
    | _, _ => False
  | _ => False
def alookup (P : Program) (H : Heap) (t : TypeId) (x key : AV) (ok : Bool) (K : AV → Prop) : Prop :=
  mapOf P H t x key fun _ r kt oi => match zeroE P kt.2 with
    | some z => K (mget ok z r.es oi)
    | none => False
def pickV (c : Bool) : AV → AV → AV
  | .v (.bool true), .v (.bool b) => .v (.bool (c || b))
  | .v (.bool a), .v (.bool false) => .v (.bool (c && a))
  | .v (.bool a), .v (.bool b) => .v (.bool (bif c then a else b))
  | x, y => bif c then x else y
def apick (G : Option Bool) (c : Bool) (x y : AV) (K : AV → Prop) : Prop :=
  match x, y with
  | .gd g x, .gd g' y => (gt G → c = true → g = true) ∧ (gt G → c = false → g' = true) ∧ K (pickV c x y)
  | .gd g x, y => (gt G → c = true → g = true) ∧ K (pickV c x y)
  | x, .gd g' y => (gt G → c = false → g' = true) ∧ K (pickV c x y)
  | x, y => K (pickV c x y)
def aload (G : Option Bool) (H : Heap) (l : Option Nat) (x : AV) (K : AV → Prop) : Prop :=
  match x with
  | .rp cs off => match l with
    | none => (gt G → off < cs.length) ∧ K (cs.getD off .any)
    | some n => (gt G → off + n ≤ cs.length) ∧ K (.agg ((cs.drop off).take n))
  | .op k i f => match H k with
    | some r => match l with
      | none => (gt G → i < r.es.length ∧ f < r.sz) ∧ K ((r.es.getD i []).getD f .any)
      | some n => (gt G → i < r.es.length ∧ f + n ≤ r.sz) ∧ K (.agg (((r.es.getD i []).drop f).take n))
    | none => False
  | _ => False
def apart (G : Option Bool) (off : Nat) (l : Option Nat) (x : AV) (K : AV → Prop) : Prop :=
  match x with
  | .agg cs => match l with
    | none => (gt G → off < cs.length) ∧ K (cs.getD off .any)
    | some n => (gt G → off + n ≤ cs.length) ∧ K (.agg ((cs.drop off).take n))
  | _ => False
def alen (P : Program) (H : Heap) (t : TypeId) (x : AV) (K : AV → Prop) : Prop :=
  match x with
  | .sl es => if isSliceT P t then K (.v (.int .i64 es.length)) else False
  | .os k => match H k with
    | some r => if isSliceT P t then K (.v (.int .i64 r.es.length)) else False
    | none => False
  | .oz _ a b => if isSliceT P t then K (.v (.int .i64 (b - a : Nat))) else False
  | .v (.string s) => if isStringT P t then K (.v (.int .i64 s.size)) else False
  | _ => False
def imax (a b : Int) : Int := if b > a then b else a
def imin (a b : Int) : Int := if b < a then b else a
def amax (x y : AV) (K : AV → Prop) : Prop :=
  match x, y with
  | .v (.int k a), .v (.int _ b) => K (.v (.int k (imax a b)))
  | _, _ => False
def amin (x y : AV) (K : AV → Prop) : Prop :=
  match x, y with
  | .v (.int k a), .v (.int _ b) => K (.v (.int k (imin a b)))
  | _, _ => False
def aindexAddr (P : Program) (G : Option Bool) (H : Heap) (t : TypeId) (x i : AV) (K : AV → Prop) : Prop :=
  match x, i with
  | .sl es, .v (.int _ n) => match elemT P t with
    | some (_, sz, _) => (gt G → (0 ≤ n ∧ n < es.length) ∧ (es.getD n.toNat []).length = sz) ∧ K (.rp (es.getD n.toNat []) 0)
    | none => False
  | .os k, .v (.int _ n) => match H k, elemT P t with
    | some r, some (_, sz, _) => (gt G → (0 ≤ n ∧ n < r.es.length) ∧ r.sz = sz) ∧ K (.op k n.toNat 0)
    | _, _ => False
  | .oz k a b, .v (.int _ n) => match H k, elemT P t with
    | some r, some (_, sz, _) => (gt G → (0 ≤ n ∧ n < (b - a : Nat)) ∧ r.sz = sz) ∧ K (.op k (a + n.toNat) 0)
    | _, _ => False
  | .rp cs off, .v (.int _ n) => match arrT P t with
    | some (m, s, _) => (gt G → 0 ≤ n ∧ n < m) ∧ K (.rp cs (off + n.toNat * s))
    | none => False
  | .op k j f, .v (.int _ n) => match arrT P t with
    | some (m, s, _) => (gt G → 0 ≤ n ∧ n < m) ∧ K (.op k j (f + n.toNat * s))
    | none => False
  | _, _ => False
def afieldAddr (P : Program) (t : TypeId) (f : Nat) (x : AV) (K : AV → Prop) : Prop :=
  match x with
  | .rp cs off => match fieldOff P t f with
    | some (o, _) => K (.rp cs (off + o))
    | none => False
  | .op k i g => match fieldOff P t f with
    | some (o, _) => K (.op k i (g + o))
    | none => False
  | _ => False
def afill (places : List (Nat × Nat)) : List AV → List (Nat × List AV) → Option (List AV)
  | cs, [] => some cs
  | cs, (i, x) :: rest => match places[i]? with
    | some (off, n) => if x.length = n ∧ off + n ≤ cs.length then afill places (cs.take off ++ x ++ cs.drop (off + n)) rest else none
    | none => none
def wparts (G : Option Bool) (ρ : Env) : List (Nat × Operand) → (List (Nat × List AV) → Prop) → Prop
  | [], K => K []
  | (i, x) :: rest, K => wopd G (aev ρ x) fun y => wcells y fun cs => wparts G ρ rest fun l => K ((i, cs) :: l)
def wopds (G : Option Bool) (ρ : Env) : List Operand → (List AV → Prop) → Prop
  | [], K => K []
  | x :: rest, K => wopd G (aev ρ x) fun y => wopds G ρ rest fun l => K (y :: l)
def abuild (P : Program) (t : TypeId) (parts : List (Nat × List AV)) (K : AV → Prop) : Prop :=
  match zeroT P t, partsT P t with
  | some z, some pl => match afill pl z parts with
    | some cs => K (.agg cs)
    | none => False
  | _, _ => False
def iota : Nat → Nat → List Nat
  | _, 0 => []
  | i, n + 1 => i :: iota (i + 1) n
def allLen (n : Nat) : List (List AV) → Prop
  | [] => True
  | cs :: r => cs.length = n ∧ allLen n r
def aslice (P : Program) (G : Option Bool) (t : TypeId) (x : AV) (lo hi : Option AV) (K : AV → Prop) : Prop :=
  match x, lo, hi with
  | .sl es, some (.v (.int _ a)), some (.v (.int _ b)) => match elemT P t with
    | some (_, sz, _) => (gt G → (0 ≤ a ∧ a ≤ b ∧ b ≤ es.length) ∧ allLen sz es) ∧ K (.sl ((es.take b.toNat).drop a.toNat))
    | none => False
  | .sl es, some (.v (.int _ a)), none => match elemT P t with
    | some (_, sz, _) => (gt G → (0 ≤ a ∧ a ≤ es.length) ∧ allLen sz es) ∧ K (.sl (es.drop a.toNat))
    | none => False
  | .sl es, none, some (.v (.int _ b)) => match elemT P t with
    | some _ => (gt G → 0 ≤ b ∧ b ≤ es.length) ∧ K (.sl (es.take b.toNat))
    | none => False
  | .v (.string s), some (.v (.int _ a)), some (.v (.int _ b)) =>
    if isStringT P t then (gt G → 0 ≤ a ∧ a ≤ b ∧ b ≤ s.size) ∧ K (.v (.string (s.extract a.toNat b.toNat))) else False
  | .v (.string s), some (.v (.int _ a)), none =>
    if isStringT P t then (gt G → 0 ≤ a ∧ a ≤ s.size) ∧ K (.v (.string (s.extract a.toNat s.size))) else False
  | .v (.string s), none, some (.v (.int _ b)) =>
    if isStringT P t then (gt G → 0 ≤ b ∧ b ≤ s.size) ∧ K (.v (.string (s.extract 0 b.toNat))) else False
  | _, _, _ => False
def asl (P : Program) (G : Option Bool) (H : Heap) (t : TypeId) (x : AV) (lo hi : Option AV) (K : AV → Prop) : Prop :=
  match x with
  | .os k => match H k, elemT P t with
    | some r, some (_, sz, _) => match lo, hi with
      | some (.v (.int _ a)), some (.v (.int _ b)) => (gt G → (0 ≤ a ∧ a ≤ b ∧ b ≤ r.es.length) ∧ r.sz = sz) ∧ K (.oz k a.toNat b.toNat)
      | some (.v (.int _ a)), none => (gt G → (0 ≤ a ∧ a ≤ r.es.length) ∧ r.sz = sz) ∧ K (.oz k a.toNat r.es.length)
      | none, some (.v (.int _ b)) => (gt G → (0 ≤ b ∧ b ≤ r.es.length) ∧ r.sz = sz) ∧ K (.oz k 0 b.toNat)
      | _, _ => False
    | _, _ => False
  | .oz k a b => match H k, elemT P t with
    | some r, some (_, sz, _) => match lo, hi with
      | some (.v (.int _ l)), none => (gt G → (0 ≤ l ∧ l ≤ (b - a : Nat)) ∧ r.sz = sz) ∧ K (.oz k (a + l.toNat) b)
      | _, _ => False
    | _, _ => False
  | x => aslice P G t x lo hi K
def aclip (P : Program) (G : Option Bool) (t : TypeId) (x a b : AV) (K : AV → Prop) : Prop :=
  match x, a, b with
  | .sl es, .v (.int _ a), .v (.int _ b) => match elemT P t with
    | some _ => (gt G → a = es.length ∧ b = es.length) ∧ K (.cl es)
    | none => False
  | _, _, _ => False
def aclip3 (P : Program) (G : Option Bool) (H : Heap) (t : TypeId) (x a b m : AV) (K : AV → Prop) : Prop :=
  match x, a, b, m with
  | .os k, .v (.int _ a), .v (.int _ b), .v (.int _ m) => match H k, elemT P t with
    | some r, some (_, sz, _) => (gt G → (a = 0 ∧ 0 ≤ b ∧ b ≤ m ∧ m ≤ r.es.length) ∧ r.sz = sz) ∧ K (.oz k 0 b.toNat)
    | _, _ => False
  | _, _, _, _ => False
def aindex (P : Program) (G : Option Bool) (t : TypeId) (x i : AV) (K : AV → Prop) : Prop :=
  match x, i with
  | .v (.string s), .v (.int _ n) =>
    if isStringT P t then (gt G → 0 ≤ n ∧ n < s.size) ∧ K (.v (.int .u8 ((s.data.getD n.toNat 0).toNat : Int))) else False
  | .agg cs, .v (.int _ n) => match arrT P t with
    | some (m, s, l) => (gt G → 0 ≤ n ∧ n < m) ∧ apart G (n.toNat * s) l (.agg cs) K
    | none => False
  | _, _ => False
def aun (op : UnOp) (x : AV) (K : AV → Prop) : Prop :=
  match op, x with
  | .not, .v (.bool b) => K (.v (.bool !b))
  | .neg, .v (.int k n) => K (.v (.int k (k.wrap (0 - n))))
  | _, _ => False
def numsOf : List (List AV) → Option (List Int)
  | [] => some []
  | [.v (.int .u8 n)] :: r => (numsOf r).map (n :: ·)
  | _ => none
def bytesT (P : Program) (t : TypeId) : Bool :=
  match P.underlying t with
  | some (.slice e) => match P.underlying e with
    | some (.int .u8) => true
    | _ => false
  | _ => false
def intT (P : Program) (t : TypeId) : Option IntKind := match P.underlying t with | some (.int k) => some k | _ => none
def aconv (P : Program) (src dst : TypeId) (x : AV) (K : AV → Prop) : Prop :=
  match x with
  | .v (.int _ n) => match intT P dst, intT P src with
    | some k, some _ => K (.v (.int k (k.wrap n)))
    | none, some _ => isStringT P dst = true ∧ (0 ≤ n ∧ n < 128) ∧ K (.v (.string (strOfNums [n])))
    | _, _ => False
  | .v (.string s) => if isStringT P src ∧ isStringT P dst then K (.v (.string s)) else False
  | .sl es => if bytesT P src ∧ isStringT P dst then
      match numsOf es with
      | some ns => K (.v (.string (strOfNums ns)))
      | none => False
    else False
  | _ => False
def isIfC : Operand → Bool
  | .const .nilIface => true
  | _ => false
def isIfT (P : Program) (t : TypeId) : Bool := match P.underlying t with | some (.interface _) => true | _ => false
def aifNil (P : Program) (t : TypeId) (op : BinOp) (x : AV) (K : AV → Prop) : Prop :=
  match op, x with
  | .eql, .v .nilIface => isIfT P t = true ∧ K (.v (.bool true))
  | .neq, .v .nilIface => isIfT P t = true ∧ K (.v (.bool false))
  | _, _ => False
def isNilC : Operand → Bool
  | .const (.slice none 0 0) => true
  | _ => false
def emptyO (H : Heap) (j : Nat) : Prop := ∀ r, H j = some r → r.es = []
def aeqNil (H : Heap) (op : BinOp) (x : AV) (K : AV → Prop) : Prop :=
  match op, x with
  | .eql, .sl es => (es = [] → K (.v (.bool true))) ∧ K (.v (.bool false))
  | .neq, .sl es => (es = [] → K (.v (.bool false))) ∧ K (.v (.bool true))
  | .eql, .os j => (emptyO H j → K (.v (.bool true))) ∧ K (.v (.bool false))
  | .neq, .os j => (emptyO H j → K (.v (.bool false))) ∧ K (.v (.bool true))
  | .eql, .v (.slice none 0 0) => K (.v (.bool true))
  | .neq, .v (.slice none 0 0) => K (.v (.bool false))
  | _, _ => False
def isConcT (P : Program) (t : TypeId) : Bool := match P.underlying t with
  | some (.interface _) => false
  | some _ => true
  | none => false
def aiface (P : Program) (t : TypeId) (x : AV) (K : AV → Prop) : Prop :=
  match x with
  | .v a => isConcT P t = true ∧ K (.v (.iface t a))
  | _ => False
def aassert (P : Program) (t : TypeId) (x : AV) (K : AV → Prop) : Prop :=
  match x with
  | .v (.iface d a) => isConcT P t = true ∧ if d = t then K (.tup [.v a, .v (.bool true)]) else ∃ z, zeroE P t = some z ∧ K (.tup [z, .v (.bool false)])
  | _ => False
def apure (P : Program) (G : Option Bool) (ρ : Env) (H : Heap) (op : Op) (K : AV → Prop) : Prop :=
  match op with
  | .move x | .assign x => wopd G (aev ρ x) K
  | .pick c a b => wopd G (aev ρ c) fun
    | .v (.bool c) => apick G c (aev ρ a) (aev ρ b) K
    | _ => False
  | .build t parts => wparts G ρ parts.toList fun l => abuild P t l K
  | .load t a => match ldT P t with
    | some l => wopd G (aev ρ a) fun a => aload G H l a K
    | none => False
  | .nilCheck x => wopd G (aev ρ x) fun
    | .rp cs off => K (.rp cs off)
    | .op k i f => K (.op k i f)
    | .v (.pointer none) => (gt G → False) ∧ ∃ cs off, K (.rp cs off)
    | _ => False
  | .binOp op t x y _ => if isNilC y = true then wopd G (aev ρ x) fun x => isSliceT P t = true ∧ aeqNil H op x K else if isIfC y = true then wopd G (aev ρ x) fun x => aifNil P t op x K else wopd G (aev ρ x) fun x => wopd G (aev ρ y) fun y => abin P G op t x y K
  | .unOp op _ x => wopd G (aev ρ x) fun x => aun op x K
  | .convert src dst x => wopd G (aev ρ x) fun x => aconv P src dst x K
  | .slice t x lo hi none => wopd G (aev ρ x) fun x => match lo, hi with
    | some lo, some hi => wopd G (aev ρ lo) fun lo => wopd G (aev ρ hi) fun hi => asl P G H t x (some lo) (some hi) K
    | some lo, none => wopd G (aev ρ lo) fun lo => asl P G H t x (some lo) none K
    | none, some hi => wopd G (aev ρ hi) fun hi => asl P G H t x none (some hi) K
    | none, none => False
  | .slice t x none (some hi) (some m) => wopd G (aev ρ x) fun x => wopd G (aev ρ hi) fun hi => wopd G (aev ρ m) fun m => aclip P G t x hi m K
  | .slice t x (some lo) (some hi) (some m) => wopd G (aev ρ x) fun x => wopd G (aev ρ lo) fun lo => wopd G (aev ρ hi) fun hi => wopd G (aev ρ m) fun m => aclip3 P G H t x lo hi m K
  | .fieldAddr t x f => wopd G (aev ρ x) fun x => afieldAddr P t f x K
  | .field t x f => match fieldOff P t f with
    | some (o, l) => wopd G (aev ρ x) fun x => apart G o l x K
    | none => False
  | .indexAddr t x i => wopd G (aev ρ x) fun x => wopd G (aev ρ i) fun i => aindexAddr P G H t x i K
  | .index t x i => wopd G (aev ρ x) fun x => wopd G (aev ρ i) fun i => aindex P G t x i K
  | .extract x i => wopd G (aev ρ x) fun
    | .tup vs => (gt G → i < vs.length) ∧ K (vs.getD i .any)
    | _ => False
  | .lookup t x i ok => wopd G (aev ρ x) fun x => wopd G (aev ρ i) fun i => alookup P H t x i ok K
  | .makeFunc f first cap => match f with
    | .func f => first = #[] ∧ wopds G ρ cap.toList fun l => K (.fn f l)
    | _ => False
  | .makeInterface t x => wopd G (aev ρ x) fun x => aiface P t x K
  | .typeAssert x _ t true => wopd G (aev ρ x) fun x => aassert P t x K
  | _ => False
def wguard (ops : Array Oper) (ρ : Env) (g : Option (Nat × Bool)) (K : Option Bool → Prop) : Prop :=
  match g with
  | none => K none
  | some (j, want) => match (ops[j]?).bind (·.dst) with
    | some t => match ρ t with
      | .v (.bool b) => K (some (b == want))
      | .gd g (.v (.bool b)) => K (some (g && (b == want)))
      | _ => False
    | none => False
def isMt (mt : Nat → Bool) : Option Nat → Bool
  | some d => mt d
  | none => false
def anew (H : Heap) (r : Row) (K : Nat → Heap → Prop) : Prop := ∀ k, H k = none → K k (updH H k (some r))
def setAt (cs : List AV) (f : Nat) (xs : List AV) : List AV := cs.take f ++ xs ++ cs.drop (f + xs.length)
def ownNils : List (Nat × TypeId × Nat) → List AV → Heap → (List AV → Heap → Prop) → Prop
  | [], cs, H, K => K cs H
  | x :: r, cs, H, K => anew H ⟨x.2.1, x.2.2, []⟩ fun k H' => ownNils r (cs.set x.1 (.os k)) H' K
def aassign (P : Program) (mt : Nat → Bool) (quiet : Bool) (G : Option Bool) (o : Oper) (x : Operand) (ρ : Env) (H : Heap) (K : Env → Heap → Prop) : Prop :=
  if isMt mt o.dst = true ∧ G = none ∧ quiet = false ∧ isNilC x = true then
    match elemT P o.type with
    | some (e, sz, _) => anew H ⟨e, sz, []⟩ fun k H' => K (upd ρ o.dst (.os k)) H'
    | none => False
  else wopd G (aev ρ x) fun y => K (upd ρ o.dst (wr G y)) H
def abox (mt : Nat → Bool) (o : Oper) (t : TypeId) (cs : List AV) (ρ : Env) (H : Heap) (K : Env → Heap → Prop) : Prop :=
  if isMt mt o.dst = true then
    0 < cs.length ∧ anew H ⟨t, cs.length, [cs]⟩ fun k H' => K (upd ρ o.dst (.op k 0 0)) H'
  else K (upd ρ o.dst (.rp cs 0)) H
def abuildSlice (P : Program) (mt : Nat → Bool) (G : Option Bool) (o : Oper) (t : TypeId) (n : Nat) (parts : List (Nat × List AV)) (ρ : Env) (H : Heap) (K : Env → Heap → Prop) : Prop :=
  match elemT P t with
  | some (e, sz, _) =>
    (parts.map (·.1) = iota 0 n ∧ allLen sz (parts.map (·.2)) ∧ n * sz ≤ 16777216) ∧
    (if isMt mt o.dst = true ∧ G = none then anew H ⟨e, sz, parts.map (·.2)⟩ fun k H' => K (upd ρ o.dst (.os k)) H'
     else K (upd ρ o.dst (wr G (.sl (parts.map (·.2))))) H)
  | none => False
def astore (P : Program) (o : Oper) (t : TypeId) (a : AV) (cs : List AV) (ρ : Env) (H : Heap) (K : Env → Heap → Prop) : Prop :=
  match a with
  | .op k i f => match H k, ldT P t with
    | some r, some l => (i < r.es.length ∧ cs.length = l.getD 1 ∧ f + cs.length ≤ r.sz ∧ (l = none → ∃ i, P.info? t = some i ∧ i.size = 1)) ∧
        K (upd ρ o.dst .any) (updH H k (some { r with es := r.es.set i (setAt (r.es.getD i []) f cs) }))
    | _, _ => False
  | _ => False
def astoreN (P : Program) (o : Oper) (t : TypeId) (a : AV) (cs : List AV) (ρ : Env) (H : Heap) (K : Env → Heap → Prop) : Prop :=
  astore P o t a cs ρ H K ∨ ((ldT P t).isSome = true ∧ ∃ nl : List (Nat × TypeId × Nat), (∀ x ∈ nl, cs[x.1]? = some (.v (.slice none 0 0)) ∧ 0 < x.2.2) ∧ ownNils nl cs H fun cs H => astore P o t a cs ρ H K)
def afreeze (x : Operand) (ρ : Env) (d : Option Nat) (H : Heap) (K : Env → Heap → Prop) : Prop :=
  match x with
  | .tmp t => match ρ t with
    | .os j => match H j with
      | some r => ∀ Hr : Heap, Hr j = none → (∀ k, k ≠ j → Hr k = H k) → K (upd (upd ρ (some t) (.sl r.es)) d (.sl r.es)) Hr
      | none => False
    | _ => False
  | _ => False
def thawL (l : List Nat) (H : Heap) : List AV → List AV → Prop
  | [], [] => True
  | x :: xs, y :: ys => (x = y ∨ ∃ j r, j ∈ l ∧ x = .os j ∧ H j = some r ∧ y = .sl r.es) ∧ thawL l H xs ys
  | _, _ => False
def athaw (x : AV) (ρ : Env) (d : Option Nat) (H : Heap) (K : Env → Heap → Prop) : Prop :=
  match x with
  | .agg cs => ∃ (l : List Nat) (ys : List AV), thawL l H cs ys ∧ ∀ Hr : Heap, (∀ k, k ∈ l → Hr k = none) → (∀ k, ¬ k ∈ l → Hr k = H k) → K (upd ρ d (.agg ys)) Hr
  | _ => False
def asrc (H : Heap) (x : AV) (K : List (List AV) → Prop) : Prop :=
  match x with
  | .sl es => K es
  | .os k => match H k with
    | some r => K r.es
    | none => False
  | .oz k a b => match H k with
    | some r => K ((r.es.take b).drop a)
    | none => False
  | _ => False
def atgt (H : Heap) (x : AV) (K : Nat → Nat → Nat → Row → Prop) : Prop :=
  match x with
  | .os k => match H k with
    | some r => K k 0 r.es.length r
    | none => False
  | .oz k a b => match H k with
    | some r => K k a (b - a) r
    | none => False
  | _ => False
def acopy (P : Program) (o : Oper) (t : TypeId) (x y : AV) (ρ : Env) (H : Heap) (K : Env → Heap → Prop) : Prop :=
  atgt H x fun k a n r => asrc H y fun news => match elemT P t with
    | some (_, sz, _) => (r.sz = sz ∧ allLen sz news) ∧ K (upd ρ o.dst (.v (.int .i64 (min news.length n : Nat)))) (updH H k (some { r with es := r.es.take a ++ news.take (min news.length n) ++ r.es.drop (a + min news.length n) }))
    | none => False
def aclear (P : Program) (o : Oper) (t : TypeId) (x : AV) (ρ : Env) (H : Heap) (K : Env → Heap → Prop) : Prop :=
  atgt H x fun k a n r => match elemT P t with
    | some (e, sz, _) => match zeroT P e with
      | some zs => r.sz = sz ∧ K (upd ρ o.dst .any) (updH H k (some { r with es := r.es.take a ++ List.replicate n zs ++ r.es.drop (a + n) }))
      | none => False
    | none => False
def aappend (P : Program) (o : Oper) (t : TypeId) (s x : AV) (ρ : Env) (H : Heap) (K : Env → Heap → Prop) : Prop :=
  match s, elemT P t with
  | .os k, some (e, sz, bytes) => match H k with
    | some r => asrc H x fun news =>
        (r.e = e ∧ r.sz = sz ∧ allLen sz news ∧ (r.es.length + news.length) * bytes ≤ 140737488355328) ∧
        ∀ k', H k' = none → K (upd ρ o.dst (.os k')) (updH (updH H k none) k' (some ⟨e, sz, r.es ++ news⟩))
    | none => False
  | .cl es, some (e, sz, bytes) => asrc H x fun news =>
      (news ≠ [] ∧ allLen sz es ∧ allLen sz news ∧ (es.length + news.length) * bytes ≤ 140737488355328) ∧
      ∀ k', H k' = none → K (upd ρ o.dst (.os k')) (updH H k' (some ⟨e, sz, es ++ news⟩))
  | .oz k a b, some (e, sz, bytes) => match H k with
    | some r => asrc H x fun news =>
        (r.e = e ∧ r.sz = sz ∧ news ≠ [] ∧ allLen sz news ∧ b = r.es.length ∧ (r.es.length + news.length) * bytes ≤ 140737488355328) ∧
        ∀ (k' : Nat) (pre : List (List AV)), pre.length ≤ a → H k' = none → K (upd ρ o.dst (.oz k' pre.length (pre.length + (b - a) + news.length))) (updH (updH H k none) k' (some ⟨e, sz, pre ++ (r.es.drop a ++ news)⟩))
    | none => False
  | .v (.slice none 0 0), some (e, sz, bytes) => asrc H x fun news =>
      (news = [] ∧ K (upd ρ o.dst (.v (.slice none 0 0))) H) ∨
      (news ≠ [] ∧ allLen sz ([] : List (List AV)) ∧ allLen sz news ∧ (([] : List (List AV)).length + news.length) * bytes ≤ 140737488355328) ∧
      ∀ k', H k' = none → K (upd ρ o.dst (.os k')) (updH H k' (some ⟨e, sz, [] ++ news⟩))
  | .sl es, some _ => asrc H x fun news => news = [] ∧ K (upd ρ o.dst (.sl es)) H
  | _, _ => False
def byteT (P : Program) (e : TypeId) : Bool := match P.info? e with
  | some i => match i.zero with
    | some (.int .u8 0) => i.size == 1 && i.bytes == 1
    | _ => false
  | none => false
def strA (s : ByteArray) : List (List AV) := s.data.toList.map fun b => [AV.v (.int .u8 b.toNat)]
def aappendS (P : Program) (o : Oper) (t t' : TypeId) (s x : AV) (ρ : Env) (H : Heap) (K : Env → Heap → Prop) : Prop :=
  match s, x, elemT P t with
  | .os k, .v (.string b), some (e, _) => match H k with
    | some r => (r.e = e ∧ r.sz = 1 ∧ (byteT P e && isStringT P t') = true ∧ r.es.length + b.size ≤ 140737488355328) ∧
        ∀ k', H k' = none → K (upd ρ o.dst (.os k')) (updH (updH H k none) k' (some ⟨e, 1, r.es ++ strA b⟩))
    | none => False
  | _, _, _ => False
def nilsV : List (Nat × TypeId × Nat) → List AV → List AV
  | [], z => z
  | x :: r, z => nilsV r (z.set x.1 (.v (.slice none 0 0)))
def abuildQ (P : Program) (o : Oper) (t : TypeId) (parts : List (Nat × Operand)) (ρ : Env) (H : Heap) (K : Env → Heap → Prop) : Prop :=
  wparts none ρ parts fun l => match zeroT P t, partsT P t, nilsT P t with
    | some z, some pl, some nl => match afill pl (nilsV nl z) l with
      | some cs => K (upd ρ o.dst (.agg cs)) H
      | none => False
    | _, _, _ => False
def abuildN (P : Program) (o : Oper) (t : TypeId) (parts : List (Nat × Operand)) (ρ : Env) (H : Heap) (K : Env → Heap → Prop) : Prop :=
  wparts none ρ parts fun l => match zeroT P t, partsT P t, nilsT P t with
    | some z, some pl, some nl => ownNils nl z H fun z H => match afill pl z l with
      | some cs => K (upd ρ o.dst (.agg cs)) H
      | none => False
    | _, _, _ => False
def amapUpdate (P : Program) (o : Oper) (t : TypeId) (m x v : AV) (ρ : Env) (H : Heap) (K : Env → Heap → Prop) : Prop :=
  mapOf P H t m x fun j r _ oi => K (upd ρ o.dst .any) (updH H j (some { r with es := mput r.es oi x v }))
def amapEntry (P : Program) (o : Oper) (t : TypeId) (m x : AV) (ρ : Env) (H : Heap) (K : Env → Heap → Prop) : Prop :=
  mapOf P H t m x fun j r kt oi => match oi with
    | some i => K (upd ρ o.dst (.tup [(r.es.getD i []).getD 1 .any, .v (.int .i64 i)])) H
    | none => match zeroE P kt.2 with
      | some z => K (upd ρ o.dst (.tup [z, .v (.int .i64 r.es.length)])) (updH H j (some { r with es := r.es ++ [[x, z]] }))
      | none => False
def aentryStore (o : Oper) (m s v : AV) (ρ : Env) (H : Heap) (K : Env → Heap → Prop) : Prop :=
  match m, s with
  | .om j, .v (.int _ i) => match H j with
    | some r => (0 ≤ i ∧ i < r.es.length) ∧ K (upd ρ o.dst .any) (updH H j (some { r with es := r.es.set i.toNat [(r.es.getD i.toNat []).getD 0 .any, v] }))
    | none => False
  | _, _ => False
def amakeSlice (P : Program) (o : Oper) (t : TypeId) (l c : AV) (ρ : Env) (H : Heap) (K : Env → Heap → Prop) : Prop :=
  match l, c with
  | .v (.int _ a), .v (.int _ b) => match elemT P t with
    | some (e, sz, bytes) => match zeroT P e with
      | some z => ((0 ≤ a ∧ a ≤ b) ∧ (bytes : Int) * b ≤ 140737488355328) ∧ anew H ⟨e, sz, List.replicate a.toNat z⟩ fun k H' => K (upd ρ o.dst (.os k)) H'
      | none => False
    | none => False
  | _, _ => False
def fnOf : AV → Option (FuncId × List AV × List AV)
  | .v (.func (.func f) first captured) => some (f, first.toList.map .v, captured.toList.map .v)
  | .fn f cap => some (f, [], cap)
  | _ => none
def callOk (P : Program) (f : FuncId) : Bool := match P.funcs[f]? with | some fn => fn.name != "runtime.NumGoroutine" && fn.body.isSome | none => false
abbrev CallP := FuncId → List AV → Heap → (AV → Heap → Prop) → Prop
def nfq (quiet : Bool) (r : AV) (K : AV → Prop) : Prop := match quiet, r with
  | true, .nf _ => False
  | false, .nf x => K x
  | _, r => K r
def acall (P : Program) (C : CallP) (PC : FuncId → List AV → Heap → AV → Prop) (nl quiet : Bool) (G : Option Bool) (o : Oper) (c : Call) (ρ : Env) (H : Heap) (K : Env → Heap → Prop) : Prop :=
  match c.callee with
  | .builtin b => wopds G ρ c.args.toList fun l => match b, l, c.argTypes.toList with
    | .len, [x], [t] => alen P H t x fun y => K (upd ρ o.dst (wr G y)) H
    | .append, [s, x], [t, t'] => if t = t' ∧ G = none ∧ quiet = false then aappend P o t s x ρ H K else if G = none ∧ quiet = false then aappendS P o t t' s x ρ H K else False
    | .copy, [x, y], [t, _] => if G = none ∧ quiet = false then acopy P o t x y ρ H K else False
    | .clear, [x], [t] => if G = none ∧ quiet = false then aclear P o t x ρ H K else False
    | .max, [x, y], [_, _] => amax x y fun z => K (upd ρ o.dst (wr G z)) H
    | .min, [x, y], [_, _] => amin x y fun z => K (upd ρ o.dst (wr G z)) H
    | _, _, _ => False
  | .value f => wopd G (aev ρ f) fun x => match fnOf x with
    | some (f, first, captured) => if nl = true then gt G ∧ quiet = false ∧ callOk P f = true ∧ C f (first ++ c.args.toList.map (aevn ρ) ++ captured) H fun r H' => K (upd ρ o.dst r) H' else wopds G ρ c.args.toList fun l =>
      callOk P f = true ∧ if G = none ∧ quiet = false then C f (first ++ l ++ captured) H fun r H' => K (upd ρ o.dst r) H'
      else ∃ r, (gt G → PC f (first ++ l ++ captured) H r) ∧ nfq quiet r fun r => K (upd ρ o.dst (wr G r)) H
    | none => False
  | .invoke _ _ => False
def aop (P : Program) (C : CallP) (PC : FuncId → List AV → Heap → AV → Prop) (mt : Nat → Bool) (quiet : Bool) (ops : Array Oper) (o : Oper) (ρ : Env) (H : Heap) (K : Env → Heap → Prop) : Prop :=
  wguard ops ρ o.guard fun G =>
  match o.op with
  | .assign x => aassign P mt quiet G o x ρ H K
  | .alloc t => match zeroT P t with
    | some z => G = none ∧ quiet = false ∧ (if isMt mt o.dst = true then match nilsT P t with
        | some nl => ownNils nl z H fun z H => anew H ⟨t, z.length, [z]⟩ fun k H' => K (upd ρ o.dst (.op k 0 0)) H'
        | none => False
      else anew H ⟨t, z.length, [z]⟩ fun k H' => K (upd ρ o.dst (.op k 0 0)) H')
    | none => False
  | .box t x => G = none ∧ quiet = false ∧ wopd G (aev ρ x) fun x => wcells x fun cs => abox mt o t cs ρ H K
  | .buildSlice t n parts => quiet = false ∧ wparts G ρ parts.toList fun l => abuildSlice P mt G o t n l ρ H K
  | .store t a x => G = none ∧ quiet = false ∧ (if isNilC x = true then wopd G (aev ρ a) fun a => match elemT P t with
        | some (e, sz, _) => anew H ⟨e, sz, []⟩ fun k H => astoreN P o t a [.os k] ρ H K
        | none => False
      else wopd G (aev ρ a) fun a => wopd G (aev ρ x) fun x => wcells x fun cs => astoreN P o t a cs ρ H K)
  | .call c => acall P C PC (isMt mt o.dst) quiet G o c ρ H K
  | .move x => if isMt mt o.dst = true then G = none ∧ quiet = false ∧ afreeze x ρ o.dst H K else apure P G ρ H (.move x) fun x => K (upd ρ o.dst (wr G x)) H
  | .pick c a b => apure P G ρ H (.pick c a b) fun x => K (upd ρ o.dst (wr G x)) H
  | .build t parts => if isMt mt o.dst = true then G = none ∧ (if quiet = true then abuildQ P o t parts.toList ρ H K else abuildN P o t parts.toList ρ H K) else apure P G ρ H (.build t parts) fun x => K (upd ρ o.dst (wr G x)) H
  | .load t a => if isMt mt o.dst = true then G = none ∧ quiet = false ∧ apure P none ρ H (.load t a) fun x => athaw x ρ o.dst H K else apure P G ρ H (.load t a) fun x => K (upd ρ o.dst (wr G x)) H
  | .nilCheck x => apure P G ρ H (.nilCheck x) fun x => K (upd ρ o.dst (wr G x)) H
  | .binOp op t x y t' => apure P G ρ H (.binOp op t x y t') fun x => K (upd ρ o.dst (wr G x)) H
  | .unOp op t x => apure P G ρ H (.unOp op t x) fun x => K (upd ρ o.dst (wr G x)) H
  | .convert s d x => apure P G ρ H (.convert s d x) fun x => K (upd ρ o.dst (wr G x)) H
  | .slice t x lo hi m => apure P G ρ H (.slice t x lo hi m) fun x => K (upd ρ o.dst (wr G x)) H
  | .fieldAddr t x f => apure P G ρ H (.fieldAddr t x f) fun x => K (upd ρ o.dst (wr G x)) H
  | .field t x f => apure P G ρ H (.field t x f) fun x => K (upd ρ o.dst (wr G x)) H
  | .indexAddr t x i => apure P G ρ H (.indexAddr t x i) fun x => K (upd ρ o.dst (wr G x)) H
  | .index t x i => apure P G ρ H (.index t x i) fun x => K (upd ρ o.dst (wr G x)) H
  | .extract x i => apure P G ρ H (.extract x i) fun x => K (upd ρ o.dst (wr G x)) H
  | .makeFunc f a b => apure P G ρ H (.makeFunc f a b) fun x => K (upd ρ o.dst (wr G x)) H
  | .makeInterface t x => apure P G ρ H (.makeInterface t x) fun x => K (upd ρ o.dst (wr G x)) H
  | .typeAssert x t t' b => apure P G ρ H (.typeAssert x t t' b) fun x => K (upd ρ o.dst (wr G x)) H
  | .makeSlice t l c => G = none ∧ quiet = false ∧ wopd G (aev ρ l) fun l => wopd G (aev ρ c) fun c => amakeSlice P o t l c ρ H K
  | .lookup t x i ok => apure P G ρ H (.lookup t x i ok) fun x => K (upd ρ o.dst (wr G x)) H
  | .makeMap _ none => G = none ∧ quiet = false ∧ anew H ⟨0, 2, []⟩ fun k H' => K (upd ρ o.dst (.om k)) H'
  | .mapUpdate t m x v => G = none ∧ quiet = false ∧ wopd G (aev ρ m) fun m => wopd G (aev ρ x) fun x => wopd G (aev ρ v) fun v => amapUpdate P o t m x v ρ H K
  | .insert t m x v => G = none ∧ quiet = false ∧ wopd G (aev ρ m) fun m => wopd G (aev ρ x) fun x => wopd G (aev ρ v) fun v => amapUpdate P o t m x v ρ H K
  | .mapEntry t m x => G = none ∧ quiet = false ∧ wopd G (aev ρ m) fun m => wopd G (aev ρ x) fun x => amapEntry P o t m x ρ H K
  | .entryStore _ m s v => G = none ∧ quiet = false ∧ wopd G (aev ρ m) fun m => wopd G (aev ρ s) fun s => wopd G (aev ρ v) fun v => aentryStore o m s v ρ H K
  | _ => False
def aops (P : Program) (C : CallP) (PC : FuncId → List AV → Heap → AV → Prop) (mt : Nat → Bool) (quiet : Bool) (ops : Array Oper) (K : Env → Heap → Prop) : List Oper → Env → Heap → Prop
  | [], ρ, H => K ρ H
  | o :: rest, ρ, H => aop P C PC mt quiet ops o ρ H (aops P C PC mt quiet ops K rest)
def Ex.seq (K : Env → Heap → Prop) (Q : Ex → Env → Heap → Prop) : Ex → Env → Heap → Prop
  | .normal, ρ, H => K ρ H
  | e, ρ, H => Q e ρ H
def Ex.blk (id : Nat) (Q : Ex → Env → Heap → Prop) : Ex → Env → Heap → Prop
  | .exit i, ρ, H => if i = id then Q .normal ρ H else Q (.exit i) ρ H
  | e, ρ, H => Q e ρ H
def aloop (W : (Ex → Env → Heap → Prop) → Env → Heap → Prop) (Q : Ex → Env → Heap → Prop) (ρ : Env) (H : Heap) : Prop :=
  ∃ (I : Env → Heap → Prop) (μ : Env → Heap → Nat), I ρ H ∧ ∀ ρ' H', I ρ' H' → W (Ex.seq (fun ρ'' H'' => I ρ'' H'' ∧ μ ρ'' H'' < μ ρ' H') Q) ρ' H'
def loudO (mt : Nat → Bool) (o : Oper) : Bool := match o.op with
  | .alloc _ => true
  | .buildSlice .. => true
  | .store .. => true
  | .makeSlice .. => true
  | .makeMap .. => true
  | .mapUpdate .. => true
  | .insert .. => true
  | .mapEntry .. => true
  | .entryStore .. => true
  | .call ⟨.builtin .append, _, _⟩ => true
  | .call ⟨.builtin .copy, _, _⟩ => true
  | .call ⟨.builtin .clear, _, _⟩ => true
  | _ => isMt mt o.dst
def drawN (mt : Nat → Bool) : List Oper → Nat
  | [] => 0
  | o :: r => if loudO mt o = true then 0 else drawN mt r + 1
def drawB (ops : Array Oper) (n : Nat) : Bool := Region.noSelect ops && decide (n ≤ ops.size) && Region.lexHead .any ops (ops.size - n) n 0 (Array.replicate ops.size false)
def qH (o : Oper) (H : Heap) : Heap := match o.op with
  | .slice .. => H
  | _ => fun _ => none
def amix (P : Program) (C : CallP) (PC : FuncId → List AV → Heap → AV → Prop) (mt : Nat → Bool) (ops : Array Oper) (K : Env → Heap → Prop) : List (Nat × Bool) → Env → Heap → Prop
  | [], ρ, H => K ρ H
  | (k, b) :: f, ρ, H => match ops[k]? with
    | some o => if b = true then aop P C PC mt true ops o ρ (qH o H) fun ρ' _ => amix P C PC mt ops K f ρ' H
      else aop P C PC mt false ops o ρ H (amix P C PC mt ops K f)
    | none => False
def amixp (P : Program) (C : CallP) (PC : FuncId → List AV → Heap → AV → Prop) (mt : Nat → Bool) (ops : Array Oper) (K : Env → Heap → Prop) (Hp : Heap) : List (Nat × Bool) → Env → Heap → Prop
  | [], ρ, H => K ρ H
  | (k, b) :: f, ρ, H => match ops[k]? with
    | some o => if b = true then aop P C PC mt true ops o ρ Hp fun ρ' _ => amixp P C PC mt ops K Hp f ρ' H
      else aop P C PC mt false ops o ρ H (amixp P C PC mt ops K Hp f)
    | none => False
def pinEnd (l : List Nat) (H : Heap) (K : Env → Heap → Prop) (ρ' : Env) (H' : Heap) : Prop :=
  (∀ k, k ∈ l → H' k = none) → ∀ Hm : Heap, (∀ k, k ∈ l → Hm k = H k) → (∀ k, k ∉ l → Hm k = H' k) → K ρ' Hm
theorem pinEnd_i {l : List Nat} {H : Heap} {K : Env → Heap → Prop} {ρ' : Env} {H' : Heap} (h : (∀ k, k ∈ l → H' k = none) → ∀ Hm : Heap, (∀ k, k ∈ l → Hm k = H k) → (∀ k, k ∉ l → Hm k = H' k) → K ρ' Hm) : pinEnd l H K ρ' H' := h
def mixFrom (ops : Array Oper) : List (Nat × Bool) → Array Bool → Bool
  | [], listed => (Region.ready .any ops listed).isEmpty
  | (k, true) :: f, listed => (Region.ready .any ops listed).contains k && Region.free .any ops listed k && mixFrom ops f (listed.setIfInBounds k true)
  | (k, false) :: f, listed => decide (Region.ready .any ops listed = [k]) && mixFrom ops f (listed.setIfInBounds k true)
def mixB (ops : Array Oper) (f : List (Nat × Bool)) : Bool := Region.noSelect ops && decide (f.length = ops.size) && mixFrom ops f (Array.replicate ops.size false)
inductive Mx where
  | nil
  | q (k : Nat) (t : Mx)
  | a1 (k : Nat) (t : Mx)
  | a2 (k : Nat) (t : Mx) (k' : Nat) (t' : Mx)
  | a3 (k : Nat) (t : Mx) (k' : Nat) (t' : Mx) (k'' : Nat) (t'' : Mx)
def aopO (P : Program) (C : CallP) (PC : FuncId → List AV → Heap → AV → Prop) (mt : Nat → Bool) (quiet : Bool) (ops : Array Oper) (k : Nat) (ρ : Env) (H : Heap) (K : Env → Heap → Prop) : Prop :=
  match ops[k]? with
  | some o => aop P C PC mt quiet ops o ρ H K
  | none => False
def amixt (P : Program) (C : CallP) (PC : FuncId → List AV → Heap → AV → Prop) (mt : Nat → Bool) (ops : Array Oper) (K : Env → Heap → Prop) (Hp : Heap) : Mx → Env → Heap → Prop
  | .nil, ρ, H => K ρ H
  | .q k t, ρ, H => aopO P C PC mt true ops k ρ Hp fun ρ' _ => amixt P C PC mt ops K Hp t ρ' H
  | .a1 k t, ρ, H => aopO P C PC mt false ops k ρ H (amixt P C PC mt ops K Hp t)
  | .a2 k t k' t', ρ, H => aopO P C PC mt false ops k ρ H (amixt P C PC mt ops K Hp t) ∧ aopO P C PC mt false ops k' ρ H (amixt P C PC mt ops K Hp t')
  | .a3 k t k' t' k'' t'', ρ, H => aopO P C PC mt false ops k ρ H (amixt P C PC mt ops K Hp t) ∧ aopO P C PC mt false ops k' ρ H (amixt P C PC mt ops K Hp t') ∧ aopO P C PC mt false ops k'' ρ H (amixt P C PC mt ops K Hp t'')
def treeFrom (ops : Array Oper) : Mx → Nat → Array Bool → Bool
  | .nil, 0, listed => (Region.ready .any ops listed).isEmpty
  | .q k t, n + 1, listed => (Region.ready .any ops listed).contains k && Region.free .any ops listed k && treeFrom ops t n (listed.setIfInBounds k true)
  | .a1 k t, n + 1, listed => decide (Region.ready .any ops listed = [k]) && treeFrom ops t n (listed.setIfInBounds k true)
  | .a2 k t k' t', n + 1, listed => decide (Region.ready .any ops listed = [k, k']) && treeFrom ops t n (listed.setIfInBounds k true) && treeFrom ops t' n (listed.setIfInBounds k' true)
  | .a3 k t k' t' k'' t'', n + 1, listed => decide (Region.ready .any ops listed = [k, k', k'']) && treeFrom ops t n (listed.setIfInBounds k true) && treeFrom ops t' n (listed.setIfInBounds k' true) && treeFrom ops t'' n (listed.setIfInBounds k'' true)
  | _, _, _ => false
def treeB (ops : Array Oper) (t : Mx) : Bool := Region.noSelect ops && treeFrom ops t ops.size (Array.replicate ops.size false)
def adraw (P : Program) (C : CallP) (PC : FuncId → List AV → Heap → AV → Prop) (mt : Nat → Bool) (ops : Array Oper) (K : Env → Heap → Prop) (m : Nat) (ρ : Env) (H : Heap) : Prop :=
  (m = ops.size ∧ Region.lexB .any ops = true ∧ aops P C PC mt true ops K ops.toList ρ H) ∨
  (drawB ops m = true ∧ aops P C PC mt true ops (fun ρ' _ => aops P C PC mt false ops K (ops.toList.drop m) ρ' H) (ops.toList.take m) ρ fun _ => none) ∨
  (∃ f, mixB ops f = true ∧ amix P C PC mt ops K f ρ H) ∨
  ∃ l t, (∀ k, k ∈ l → (H k).isSome = true) ∧ treeB ops t = true ∧ ∀ Hp Hr : Heap, (∀ k, k ∈ l → Hp k = H k) → (∀ k, k ∉ l → Hr k = H k) → (∀ k, k ∉ l → Hp k = none) → (∀ k, k ∈ l → Hr k = none) → amixt P C PC mt ops (pinEnd l H K) Hp t ρ Hr
theorem adraw_q {P : Program} {C : CallP} {PC : FuncId → List AV → Heap → AV → Prop} {mt : Nat → Bool} {l : List Oper} {K : Env → Heap → Prop} {m : Nat} {ρ : Env} {H : Heap} (hm : (m == l.length) = true) (hl : Region.lexB .any l.toArray = true)
    (h : aops P C PC mt true l.toArray K l ρ H) : adraw P C PC mt l.toArray K m ρ H := .inl ⟨by simpa using hm, hl, h⟩
theorem adraw_m {P : Program} {C : CallP} {PC : FuncId → List AV → Heap → AV → Prop} {mt : Nat → Bool} {l : List Oper} {K : Env → Heap → Prop} {m : Nat} {ρ : Env} {H : Heap} (f : List (Nat × Bool)) (hB : mixB l.toArray f = true)
    (h : amix P C PC mt l.toArray K f ρ H) : adraw P C PC mt l.toArray K m ρ H := .inr (.inr (.inl ⟨f, hB, h⟩))
theorem adraw_t {P : Program} {C : CallP} {PC : FuncId → List AV → Heap → AV → Prop} {mt : Nat → Bool} {ops : List Oper} {K : Env → Heap → Prop} {m : Nat} {ρ : Env} {H : Heap} (l : List Nat) (t : Mx) (hl : ∀ k, k ∈ l → (H k).isSome = true) (hB : treeB ops.toArray t = true)
    (h : ∀ Hp Hr : Heap, (∀ k, k ∈ l → Hp k = H k) → (∀ k, k ∉ l → Hr k = H k) → (∀ k, k ∉ l → Hp k = none) → (∀ k, k ∈ l → Hr k = none) → amixt P C PC mt ops.toArray (pinEnd l H K) Hp t ρ Hr) : adraw P C PC mt ops.toArray K m ρ H := .inr (.inr (.inr ⟨l, t, hl, hB, h⟩))
def mxL : List (Nat × Bool) → Mx
  | [] => .nil
  | (k, true) :: f => .q k (mxL f)
  | (k, false) :: f => .a1 k (mxL f)
theorem mxL_eq {P : Program} {C : CallP} {PC : FuncId → List AV → Heap → AV → Prop} {mt : Nat → Bool} {ops : Array Oper} {K : Env → Heap → Prop} (Hp : Heap) : ∀ f, amixp P C PC mt ops K Hp f = amixt P C PC mt ops K Hp (mxL f)
  | [] => by funext ρ H; simp only [amixp, mxL, amixt]
  | (k, b) :: f => by funext ρ H; cases b <;> simp [amixp, mxL, amixt, aopO, mxL_eq Hp f]
theorem mxL_B {ops : Array Oper} {f : List (Nat × Bool)} (h : mixB ops f = true) : treeB ops (mxL f) = true := by
  have hh : ∀ (f : List (Nat × Bool)) (l : Array Bool), mixFrom ops f l = true → treeFrom ops (mxL f) f.length l = true := by
    intro f
    induction f with
    | nil => intro l h; simpa [mixFrom, mxL, treeFrom] using h
    | cons x f ih =>
      intro l h
      obtain ⟨k, b⟩ := x
      cases b <;> simp only [mixFrom, Bool.and_eq_true] at h <;> simp only [mxL, treeFrom, List.length_cons, Bool.and_eq_true]
      · exact ⟨h.1, ih _ h.2⟩
      · exact ⟨h.1, ih _ h.2⟩
  simp only [mixB, Bool.and_eq_true, decide_eq_true_eq] at h
  simp only [treeB, Bool.and_eq_true]
  have e := hh f _ h.2
  rw [h.1.2] at e
  exact ⟨h.1.1, e⟩
theorem adraw_p {P : Program} {C : CallP} {PC : FuncId → List AV → Heap → AV → Prop} {mt : Nat → Bool} {ops : List Oper} {K : Env → Heap → Prop} {m : Nat} {ρ : Env} {H : Heap} (l : List Nat) (f : List (Nat × Bool)) (hl : ∀ k, k ∈ l → (H k).isSome = true) (hB : mixB ops.toArray f = true)
    (h : ∀ Hp Hr : Heap, (∀ k, k ∈ l → Hp k = H k) → (∀ k, k ∉ l → Hr k = H k) → (∀ k, k ∉ l → Hp k = none) → (∀ k, k ∈ l → Hr k = none) → amixp P C PC mt ops.toArray (pinEnd l H K) Hp f ρ Hr) : adraw P C PC mt ops.toArray K m ρ H := adraw_t l (mxL f) hl (mxL_B hB) fun Hp Hr h1 h2 h3 h4 => by rw [← mxL_eq Hp f]; exact h Hp Hr h1 h2 h3 h4
def awp (P : Program) (C : CallP) (PC : FuncId → List AV → Heap → AV → Prop) (mt : Nat → Bool) : Code → (Ex → Env → Heap → Prop) → Env → Heap → Prop
  | .skip, Q, ρ, H => Q .normal ρ H
  | .region _ ops draw, Q, ρ, H => if draw = true then adraw P C PC mt ops (Q .normal) (drawN mt ops.toList) ρ H else aops P C PC mt false ops (Q .normal) ops.toList ρ H
  | .seq a b, Q, ρ, H => awp P C PC mt a (Ex.seq (awp P C PC mt b Q) Q) ρ H
  | .cond c a b, Q, ρ, H => match aev ρ c with
    | .v (.bool t) => (t = true → awp P C PC mt a Q ρ H) ∧ (t = false → awp P C PC mt b Q ρ H)
    | _ => False
  | .block id c, Q, ρ, H => awp P C PC mt c (Ex.blk id Q) ρ H
  | .loop c, Q, ρ, H => aloop (awp P C PC mt c) Q ρ H
  | .scope c, Q, ρ, H => awp P C PC mt c Q ρ H
  | .label _, Q, ρ, H => Q .normal ρ H
  | .exit id, Q, ρ, H => Q (.exit id) ρ H
  | .ret, Q, ρ, H => Q .ret ρ H
  | _, _, _, _ => False
def acond (x : AV) (A B : Env → Heap → Prop) (ρ : Env) (H : Heap) : Prop :=
  match x with
  | .v (.bool t) => (t = true → A ρ H) ∧ (t = false → B ρ H)
  | _ => False
section
variable {P : Program} {C : CallP} {PC : FuncId → List AV → Heap → AV → Prop} {mt : Nat → Bool} {Q : Ex → Env → Heap → Prop} {K : Env → Heap → Prop} {ρ : Env} {H : Heap} {a b c : Code} {id : Nat} {ops : Array Oper} {draw : Bool}
theorem awp_skip : awp P C PC mt .skip Q ρ H = Q .normal ρ H := (rfl)
theorem awp_region : awp P C PC mt (.region id ops false) Q ρ H = aops P C PC mt false ops (Q .normal) ops.toList ρ H := by simp [awp]
theorem awp_draw : awp P C PC mt (.region id ops true) Q ρ H = adraw P C PC mt ops (Q .normal) (drawN mt ops.toList) ρ H := by simp [awp]
@[congr] theorem adraw_c {m m' : Nat} (h : m = m') : adraw P C PC mt ops K m ρ H = adraw P C PC mt ops K m' ρ H := h ▸ rfl
theorem awp_seq : awp P C PC mt (.seq a b) Q ρ H = awp P C PC mt a (Ex.seq (awp P C PC mt b Q) Q) ρ H := (rfl)
theorem awp_cond {x : Operand} : awp P C PC mt (.cond x a b) Q ρ H = acond (aev ρ x) (awp P C PC mt a Q) (awp P C PC mt b Q) ρ H := (rfl)
theorem awp_block : awp P C PC mt (.block id c) Q ρ H = awp P C PC mt c (Ex.blk id Q) ρ H := (rfl)
theorem awp_loop : awp P C PC mt (.loop c) Q ρ H = aloop (awp P C PC mt c) Q ρ H := (rfl)
theorem awp_scope : awp P C PC mt (.scope c) Q ρ H = awp P C PC mt c Q ρ H := (rfl)
theorem awp_label {l : Nat} : awp P C PC mt (.label l) Q ρ H = Q .normal ρ H := (rfl)
theorem awp_exit : awp P C PC mt (.exit id) Q ρ H = Q (.exit id) ρ H := (rfl)
theorem awp_ret : awp P C PC mt .ret Q ρ H = Q .ret ρ H := (rfl)
theorem aops_nil : aops P C PC mt draw ops K [] ρ H = K ρ H := (rfl)
theorem aops_cons {o : Oper} {r : List Oper} : aops P C PC mt draw ops K (o :: r) ρ H = aop P C PC mt draw ops o ρ H (aops P C PC mt draw ops K r) := (rfl)
theorem seq_normal : Ex.seq K Q .normal ρ H = K ρ H := (rfl)
theorem seq_exit : Ex.seq K Q (.exit id) ρ H = Q (.exit id) ρ H := (rfl)
theorem seq_ret : Ex.seq K Q .ret ρ H = Q .ret ρ H := (rfl)
theorem blk_normal : Ex.blk id Q .normal ρ H = Q .normal ρ H := (rfl)
theorem blk_ret : Ex.blk id Q .ret ρ H = Q .ret ρ H := (rfl)
theorem blk_same : Ex.blk id Q (.exit id) ρ H = Q .normal ρ H := by simp [Ex.blk]
theorem blk_other {i : Nat} (h : (i == id) = false) : Ex.blk id Q (.exit i) ρ H = Q (.exit i) ρ H := by
  have : i ≠ id := by simpa using h
  simp [Ex.blk, this]
end
@[congr] theorem wopd_c {G x x' k} (h : x = x') : wopd G x k = wopd G x' k := h ▸ rfl
@[congr] theorem abin_c {P G op t x x' y y' k} (h : x = x') (h' : y = y') : abin P G op t x y k = abin P G op t x' y' k := h ▸ h' ▸ rfl
@[congr] theorem apick_c {G c c' x x' y y' k} (h0 : c = c') (h : x = x') (h' : y = y') : apick G c x y k = apick G c' x' y' k := h0 ▸ h ▸ h' ▸ rfl
@[congr] theorem aload_c {G H l l' x x' k} (h : l = l') (h' : x = x') : aload G H l x k = aload G H l' x' k := h ▸ h' ▸ rfl
@[congr] theorem apart_c {G o o' l l' x x' k} (h0 : o = o') (h : l = l') (h' : x = x') : apart G o l x k = apart G o' l' x' k := h0 ▸ h ▸ h' ▸ rfl
@[congr] theorem alen_c {P H t x x' k} (h' : x = x') : alen P H t x k = alen P H t x' k := h' ▸ rfl
@[congr] theorem aindexAddr_c {P G H t x x' y y' k} (h : x = x') (h' : y = y') : aindexAddr P G H t x y k = aindexAddr P G H t x' y' k := h ▸ h' ▸ rfl
@[congr] theorem aindex_c {P G t x x' y y' k} (h : x = x') (h' : y = y') : aindex P G t x y k = aindex P G t x' y' k := h ▸ h' ▸ rfl
@[congr] theorem afieldAddr_c {P t f x x' k} (h' : x = x') : afieldAddr P t f x k = afieldAddr P t f x' k := h' ▸ rfl
@[congr] theorem abuild_c {P t l l' k} (h' : l = l') : abuild P t l k = abuild P t l' k := h' ▸ rfl
@[congr] theorem aslice_c {P G t x x' lo lo' hi hi' k} (h : x = x') (h1 : lo = lo') (h2 : hi = hi') : aslice P G t x lo hi k = aslice P G t x' lo' hi' k := h ▸ h1 ▸ h2 ▸ rfl
@[congr] theorem aun_c {op x x' k} (h' : x = x') : aun op x k = aun op x' k := h' ▸ rfl
@[congr] theorem aiface_c {P t x x' k} (h' : x = x') : aiface P t x k = aiface P t x' k := h' ▸ rfl
@[congr] theorem aassert_c {P t x x' k} (h' : x = x') : aassert P t x k = aassert P t x' k := h' ▸ rfl
@[congr] theorem aconv_c {P s t x x' k} (h' : x = x') : aconv P s t x k = aconv P s t x' k := h' ▸ rfl
@[congr] theorem wcells_c {x x' K} (h : x = x') : wcells x K = wcells x' K := h ▸ rfl
@[congr] theorem acond_c {x x' A B ρ H} (h' : x = x') : acond x A B ρ H = acond x' A B ρ H := h' ▸ rfl
@[congr] theorem abox_c {mt o t x x' ρ H K} (h : x = x') : abox mt o t x ρ H K = abox mt o t x' ρ H K := h ▸ rfl
@[congr] theorem abuildSlice_c {P mt G o t n x x' ρ H K} (h : x = x') : abuildSlice P mt G o t n x ρ H K = abuildSlice P mt G o t n x' ρ H K := h ▸ rfl
@[congr] theorem astore_c {P o t a a' x x' ρ H K} (h : a = a') (h' : x = x') : astore P o t a x ρ H K = astore P o t a' x' ρ H K := h ▸ h' ▸ rfl
@[congr] theorem aappendS_c {P o t t' a a' x x' ρ H K} (h : a = a') (h' : x = x') : aappendS P o t t' a x ρ H K = aappendS P o t t' a' x' ρ H K := h ▸ h' ▸ rfl
@[congr] theorem aappend_c {P o t a a' x x' ρ H K} (h : a = a') (h' : x = x') : aappend P o t a x ρ H K = aappend P o t a' x' ρ H K := h ▸ h' ▸ rfl
@[congr] theorem asrc_c {H x x' K} (h : x = x') : asrc H x K = asrc H x' K := h ▸ rfl
@[congr] theorem anew_c {H r r' K} (h : r = r') : anew H r K = anew H r' K := h ▸ rfl
theorem acond_i {t : Bool} {A B : Env → Heap → Prop} {ρ : Env} {H : Heap} (h1 : t = true → A ρ H) (h2 : t = false → B ρ H) : acond (.v (.bool t)) A B ρ H := ⟨h1, h2⟩
def env0 (args : List AV) : Env := fun t => args.getD t .any
def natOf : AV → Nat
  | .v (.int _ n) => n.toNat
  | _ => 0
theorem natOf_int {k n} : natOf (.v (.int k n)) = n.toNat := (rfl)
section
variable {G : Option Bool} {k : AV → Prop}
theorem wopd_v {x} : wopd G (.v x) k = k (.v x) := (rfl)
theorem wopd_any : wopd G .any k = k .any := (rfl)
theorem wopd_sl {x} : wopd G (.sl x) k = k (.sl x) := (rfl)
theorem wopd_rp {x o} : wopd G (.rp x o) k = k (.rp x o) := (rfl)
theorem wopd_agg {x} : wopd G (.agg x) k = k (.agg x) := (rfl)
theorem wopd_tup {x} : wopd G (.tup x) k = k (.tup x) := (rfl)
theorem wopd_os {x} : wopd G (.os x) k = k (.os x) := (rfl)
theorem wopd_op {x i f} : wopd G (.op x i f) k = k (.op x i f) := (rfl)
theorem wopd_fn {f l} : wopd G (.fn f l) k = k (.fn f l) := (rfl)
theorem wopd_oz {j a b} : wopd G (.oz j a b) k = k (.oz j a b) := (rfl)
theorem wopd_cl {es} : wopd G (.cl es) k = k (.cl es) := (rfl)
theorem wopd_om {j} : wopd G (.om j) k = k (.om j) := (rfl)
theorem wopd_gd {g x} : wopd G (.gd g x) k = (gok G g ∧ k x) := (rfl)
end
def kontO (K : Env → Heap → Prop) (ρ : Env) (d : Option Tmp) (j : Nat) (H : Heap) : Prop := K (upd ρ d (.os j)) H
def kontP (K : Env → Heap → Prop) (ρ : Env) (d : Option Tmp) (j : Nat) (H : Heap) : Prop := K (upd ρ d (.op j 0 0)) H
def kontR (K : Env → Heap → Prop) (ρ : Env) (d : Option Tmp) (r : AV) (H : Heap) : Prop := K (upd ρ d r) H
theorem kontO_eq {K ρ d j H} : kontO K ρ d j H = K (upd ρ d (.os j)) H := (rfl)
theorem kontP_eq {K ρ d j H} : kontP K ρ d j H = K (upd ρ d (.op j 0 0)) H := (rfl)
theorem kontR_eq {K ρ d r H} : kontR K ρ d r H = K (upd ρ d r) H := (rfl)
def wpick (G : Option Bool) (c x y : AV) (k : AV → Prop) : Prop := match c with
  | .v (.bool c) => apick G c x y k
  | _ => False
@[congr] theorem wpick_c {G c c' x y k} (h : c = c') : wpick G c x y k = wpick G c' x y k := h ▸ rfl
theorem wpick_v {G c x y k} : wpick G (.v (.bool c)) x y k = apick G c x y k := (rfl)
def wptr (G : Option Bool) (x : AV) (k : AV → Prop) : Prop := match x with
  | .rp cs off => k (.rp cs off)
  | .op j i f => k (.op j i f)
  | .v (.pointer none) => (gt G → False) ∧ ∃ cs off, k (.rp cs off)
  | _ => False
@[congr] theorem wptr_c {G x x' k} (h : x = x') : wptr G x k = wptr G x' k := h ▸ rfl
theorem wptr_rp {G cs o k} : wptr G (.rp cs o) k = k (.rp cs o) := (rfl)
theorem wptr_op {G j i f k} : wptr G (.op j i f) k = k (.op j i f) := (rfl)
theorem wptr_nil {G k} : wptr G (.v (.pointer none)) k = ((gt G → False) ∧ ∃ cs off, k (.rp cs off)) := (rfl)
def wtup (G : Option Bool) (x : AV) (i : Nat) (k : AV → Prop) : Prop := match x with
  | .tup vs => (gt G → i < vs.length) ∧ k (vs.getD i .any)
  | _ => False
@[congr] theorem wtup_c {G x x' i k} (h : x = x') : wtup G x i k = wtup G x' i k := h ▸ rfl
theorem wtup_eq {G vs i k} : wtup G (.tup vs) i k = ((gt G → i < vs.length) ∧ k (vs.getD i .any)) := (rfl)
def wput (P : Program) (d : Option Tmp) (t : TypeId) (a : AV) (cs : List AV) (ρ : Env) (H : Heap) (K : Env → Heap → Prop) : Prop := astoreN P ⟨d, .move (.tmp 0), 0, "", #[], none⟩ t a cs ρ H K
@[congr] theorem wput_c {P d t a a' cs cs' ρ H K} (h : a = a') (h' : cs = cs') : wput P d t a cs ρ H K = wput P d t a' cs' ρ H K := h ▸ h' ▸ rfl
def wapp (P : Program) (d : Option Tmp) (t : TypeId) (s x : AV) (ρ : Env) (H : Heap) (K : Env → Heap → Prop) : Prop := aappend P ⟨d, .move (.tmp 0), 0, "", #[], none⟩ t s x ρ H K
def wappS (P : Program) (d : Option Tmp) (t t' : TypeId) (s x : AV) (ρ : Env) (H : Heap) (K : Env → Heap → Prop) : Prop := aappendS P ⟨d, .move (.tmp 0), 0, "", #[], none⟩ t t' s x ρ H K
@[congr] theorem wappS_c {P d t t' s s' x x' ρ H K} (h : s = s') (h' : x = x') : wappS P d t t' s x ρ H K = wappS P d t t' s' x' ρ H K := h ▸ h' ▸ rfl
@[congr] theorem wapp_c {P d t s s' x x' ρ H K} (h : s = s') (h' : x = x') : wapp P d t s x ρ H K = wapp P d t s' x' ρ H K := h ▸ h' ▸ rfl
def wmake (P : Program) (d : Option Tmp) (t : TypeId) (l c : AV) (ρ : Env) (H : Heap) (K : Env → Heap → Prop) : Prop := amakeSlice P ⟨d, .move (.tmp 0), 0, "", #[], none⟩ t l c ρ H K
@[congr] theorem wmake_c {P d t s s' x x' ρ H K} (h : s = s') (h' : x = x') : wmake P d t s x ρ H K = wmake P d t s' x' ρ H K := h ▸ h' ▸ rfl
def wcopy (P : Program) (d : Option Tmp) (t : TypeId) (x y : AV) (ρ : Env) (H : Heap) (K : Env → Heap → Prop) : Prop := acopy P ⟨d, .move (.tmp 0), 0, "", #[], none⟩ t x y ρ H K
@[congr] theorem wcopy_c {P d t s s' x x' ρ H K} (h : s = s') (h' : x = x') : wcopy P d t s x ρ H K = wcopy P d t s' x' ρ H K := h ▸ h' ▸ rfl
def wclear (P : Program) (d : Option Tmp) (t : TypeId) (x : AV) (ρ : Env) (H : Heap) (K : Env → Heap → Prop) : Prop := aclear P ⟨d, .move (.tmp 0), 0, "", #[], none⟩ t x ρ H K
@[congr] theorem wclear_c {P d t s s' ρ H K} (h : s = s') : wclear P d t s ρ H K = wclear P d t s' ρ H K := h ▸ rfl
theorem wappS_i {P : Program} {d : Option Tmp} {t t' : TypeId} {j : Nat} {b : ByteArray} {ρ : Env} {H : Heap} {K : Env → Heap → Prop} {e : TypeId} {y : Nat × Nat} {r : Row} (he : elemT P t = some (e, y)) (hj : H j = some r)
    (h1 : r.e = e ∧ r.sz = 1) (h2 : (byteT P e && isStringT P t') = true) (h3 : r.es.length + b.size ≤ 140737488355328)
    (h : ∀ j', H j' = none → K (upd ρ d (.os j')) (updH (updH H j none) j' (some ⟨e, 1, r.es ++ strA b⟩))) : wappS P d t t' (.os j) (.v (.string b)) ρ H K := by
  unfold wappS aappendS
  simp only [he, hj]
  exact ⟨⟨h1.1, h1.2, h2, h3⟩, h⟩
theorem wapp_none {P : Program} {d : Option Tmp} {t : TypeId} {s x : AV} {ρ : Env} {H : Heap} {K : Env → Heap → Prop} {e : TypeId × Nat × Nat} (he : elemT P t = some e) (hs : s = .v (.slice none 0 0) ∨ ∃ es, s = .sl es)
    (hx : x = .sl [] ∨ ∃ i r', x = .os i ∧ H i = some r' ∧ r'.es = []) (h : K (upd ρ d s) H) : wapp P d t s x ρ H K := by
  unfold wapp aappend
  obtain ⟨e, sz, b⟩ := e
  simp only [he]
  rcases hs with rfl | ⟨es, rfl⟩ <;> rcases hx with rfl | ⟨i, r', rfl, hi, h0⟩
  · exact .inl ⟨rfl, h⟩
  · simp only [asrc, hi]
    exact .inl ⟨h0, h⟩
  · exact ⟨rfl, h⟩
  · simp only [asrc, hi]
    exact ⟨h0, h⟩
theorem anew_i {H : Heap} {r : Row} {F : Nat → Heap → Prop} (h : ∀ j, H j = none → F j (updH H j (some r))) : anew H r F := h
def withO {α : Type} (o : Option α) (f : α → Prop) : Prop := match o with | some x => f x | none => False
theorem withO_some {α : Type} {x : α} {f : α → Prop} : withO (some x) f = f x := (rfl)
@[congr] theorem withO_c {α : Type} {o o' : Option α} {f : α → Prop} (h : o = o') : withO o f = withO o' f := h ▸ rfl
section
variable {P : Program} {C : CallP} {PC : FuncId → List AV → Heap → AV → Prop} {mt : Nat → Bool} {q : Bool} {ops : Array Oper} {d : Option Tmp} {ty : TypeId} {pos : String} {aft : Array Edge} {ρ : Env} {H : Heap} {K : Env → Heap → Prop} {G : Option Bool} {k : AV → Prop}
theorem aev_tmp {t} : aev ρ (.tmp t) = ρ t := (rfl)
theorem aev_const {v} : aev ρ (.const v) = zeroV v := (rfl)
theorem aev_func {f} : aev ρ (.func f) = .v (.func (.func f) #[] #[]) := (rfl)
theorem abin_add {t n a b} : abin P G .add t (.v (.int n a)) (.v (.int n b)) k = k (.v (.int n (n.wrap (a + b)))) := by simp [abin, isSh]
theorem abin_sub {t n a b} : abin P G .sub t (.v (.int n a)) (.v (.int n b)) k = k (.v (.int n (n.wrap (a - b)))) := by simp [abin, isSh]
theorem abin_quo {t n a b} : abin P G .quo t (.v (.int n a)) (.v (.int n b)) k = ((gt G → b ≠ 0) ∧ k (.v (.int n (n.wrap (a.tdiv b))))) := by simp [abin, isSh]
theorem abin_rem {t n a b} : abin P G .rem t (.v (.int n a)) (.v (.int n b)) k = ((gt G → b ≠ 0) ∧ k (.v (.int n (a.tmod b)))) := by simp [abin, isSh]
theorem abin_eql {t n a b} : abin P G .eql t (.v (.int n a)) (.v (.int n b)) k = k (.v (.bool (a == b))) := by simp [abin, isSh]
theorem abin_neq {t n a b} : abin P G .neq t (.v (.int n a)) (.v (.int n b)) k = k (.v (.bool (a != b))) := by simp [abin, isSh]
theorem abin_lss {t n a b} : abin P G .lss t (.v (.int n a)) (.v (.int n b)) k = k (.v (.bool (decide (a < b)))) := by simp [abin, isSh]
theorem abin_leq {t n a b} : abin P G .leq t (.v (.int n a)) (.v (.int n b)) k = k (.v (.bool (decide (a ≤ b)))) := by simp [abin, isSh]
theorem abin_gtr {t n a b} : abin P G .gtr t (.v (.int n a)) (.v (.int n b)) k = k (.v (.bool (decide (a > b)))) := by simp [abin, isSh]
theorem abin_geq {t n a b} : abin P G .geq t (.v (.int n a)) (.v (.int n b)) k = k (.v (.bool (decide (a ≥ b)))) := by simp [abin, isSh]
theorem abin_sadd {t a b} : abin P G .add t (.v (.string a)) (.v (.string b)) k = ((gt G → ((a.size + b.size : Nat) : Int) ≤ IntKind.i64.max) ∧ k (.v (.string (a ++ b)))) := (rfl)
theorem abin_seql {t a b} : abin P G .eql t (.v (.string a)) (.v (.string b)) k = k (.v (.bool (a.toList == b.toList))) := (rfl)
theorem abin_sneq {t a b} : abin P G .neq t (.v (.string a)) (.v (.string b)) k = k (.v (.bool !(a.toList == b.toList))) := (rfl)
theorem abin_beql {t a b} : abin P G .eql t (.v (.bool a)) (.v (.bool b)) k = if isBoolT P t then k (.v (.bool (a == b))) else False := (rfl)
theorem abin_bneq {t a b} : abin P G .neq t (.v (.bool a)) (.v (.bool b)) k = if isBoolT P t then k (.v (.bool !(a == b))) else False := (rfl)
theorem abin_aeql {t x y} : abin P G .eql t (.agg x) (.agg y) k = withO (flatT P t) fun l => withO (eqCells l x y) fun b => k (.v (.bool b)) := by
  cases h1 : flatT P t with
  | none => simp [abin, withO, h1]
  | some l => cases h2 : eqCells l x y <;> simp [abin, withO, h1, h2]
theorem apick_vv {c x y} : apick G c (.v x) (.v y) k = k (pickV c (.v x) (.v y)) := (rfl)
theorem apick_vg {c x g y} : apick G c (.v x) (.gd g y) k = ((gt G → c = false → g = true) ∧ k (pickV c (.v x) y)) := (rfl)
theorem apick_gv {c g x y} : apick G c (.gd g x) (.v y) k = ((gt G → c = true → g = true) ∧ k (pickV c x (.v y))) := (rfl)
theorem pickV_t {c b} : pickV c (.v (.bool true)) (.v (.bool b)) = .v (.bool (c || b)) := (rfl)
theorem pickV_f {c a} : pickV c (.v (.bool a)) (.v (.bool false)) = .v (.bool (c && a)) := by cases a <;> cases c <;> rfl
theorem aload_rp1 {cs o} : aload G H none (.rp cs o) k = ((gt G → o < cs.length) ∧ k (cs.getD o .any)) := (rfl)
theorem aload_rpn {cs o n} : aload G H (some n) (.rp cs o) k = ((gt G → o + n ≤ cs.length) ∧ k (.agg ((cs.drop o).take n))) := (rfl)
theorem aload_op1 {j i f} : aload G H none (.op j i f) k = withO (H j) fun r => (gt G → i < r.es.length ∧ f < r.sz) ∧ k ((r.es.getD i []).getD f .any) := by
  cases h1 : H j <;> simp [aload, withO, h1]
theorem aload_opn {j i f n} : aload G H (some n) (.op j i f) k = withO (H j) fun r => (gt G → i < r.es.length ∧ f + n ≤ r.sz) ∧ k (.agg (((r.es.getD i []).drop f).take n)) := by
  cases h1 : H j <;> simp [aload, withO, h1]
theorem apart_1 {o cs} : apart G o none (.agg cs) k = ((gt G → o < cs.length) ∧ k (cs.getD o .any)) := (rfl)
theorem apart_n {o n cs} : apart G o (some n) (.agg cs) k = ((gt G → o + n ≤ cs.length) ∧ k (.agg ((cs.drop o).take n))) := (rfl)
theorem alen_sl {t es} : alen P H t (.sl es) k = if isSliceT P t then k (.v (.int .i64 es.length)) else False := (rfl)
theorem alen_os {t j} : alen P H t (.os j) k = withO (H j) fun r => if isSliceT P t then k (.v (.int .i64 r.es.length)) else False := by
  cases h1 : H j <;> simp [alen, withO, h1]
theorem alen_oz {t j a b} : alen P H t (.oz j a b) k = if isSliceT P t then k (.v (.int .i64 (b - a : Nat))) else False := (rfl)
theorem alen_st {t s} : alen P H t (.v (.string s)) k = if isStringT P t then k (.v (.int .i64 s.size)) else False := (rfl)
theorem aindexAddr_sl {t es n i} : aindexAddr P G H t (.sl es) (.v (.int n i)) k = withO (elemT P t) fun e => (gt G → (0 ≤ i ∧ i < es.length) ∧ (es.getD i.toNat []).length = e.2.1) ∧ k (.rp (es.getD i.toNat []) 0) := by
  cases h1 : elemT P t <;> simp [aindexAddr, withO, h1]
theorem aindexAddr_os {t j n i} : aindexAddr P G H t (.os j) (.v (.int n i)) k = withO (H j) fun r => withO (elemT P t) fun e => (gt G → (0 ≤ i ∧ i < r.es.length) ∧ r.sz = e.2.1) ∧ k (.op j i.toNat 0) := by
  cases h1 : H j <;> cases h2 : elemT P t <;> simp [aindexAddr, withO, h1, h2]
theorem aindexAddr_rp {t cs o n i} : aindexAddr P G H t (.rp cs o) (.v (.int n i)) k = withO (arrT P t) fun e => (gt G → 0 ≤ i ∧ i < e.1) ∧ k (.rp cs (o + i.toNat * e.2.1)) := by
  cases h1 : arrT P t <;> simp [aindexAddr, withO, h1]
theorem aindexAddr_op {t j a o n i} : aindexAddr P G H t (.op j a o) (.v (.int n i)) k = withO (arrT P t) fun e => (gt G → 0 ≤ i ∧ i < e.1) ∧ k (.op j a (o + i.toNat * e.2.1)) := by
  cases h1 : arrT P t <;> simp [aindexAddr, withO, h1]
theorem afieldAddr_rp {t f cs o} : afieldAddr P t f (.rp cs o) k = withO (fieldOff P t f) fun e => k (.rp cs (o + e.1)) := by
  cases h1 : fieldOff P t f <;> simp [afieldAddr, withO, h1]
theorem afieldAddr_op {t f j i o} : afieldAddr P t f (.op j i o) k = withO (fieldOff P t f) fun e => k (.op j i (o + e.1)) := by
  cases h1 : fieldOff P t f <;> simp [afieldAddr, withO, h1]
theorem aun_not {b} : aun .not (.v (.bool b)) k = k (.v (.bool !b)) := (rfl)
theorem aun_neg {n i} : aun .neg (.v (.int n i)) k = k (.v (.int n (n.wrap (0 - i)))) := (rfl)
def withI {α : Type} (o : Option α) (f : α → Prop) (d : Prop) : Prop := match o with | some x => f x | none => d
theorem withI_some {α : Type} {x : α} {f d} : withI (some x) f d = f x := (rfl)
theorem withI_none {α : Type} {f : α → Prop} {d} : withI none f d = d := (rfl)
theorem withI_c {α : Type} {o o' : Option α} {f d} (h : o = o') : withI o f d = withI o' f d := h ▸ rfl
attribute [congr] withI_c
theorem aiface_v {t a} : aiface P t (.v a) k = (isConcT P t = true ∧ k (.v (.iface t a))) := (rfl)
theorem aassert_if {t d a} : aassert P t (.v (.iface d a)) k = (isConcT P t = true ∧ if d = t then k (.tup [.v a, .v (.bool true)]) else ∃ z, zeroE P t = some z ∧ k (.tup [z, .v (.bool false)])) := (rfl)
theorem aconv_int {s t n i} : aconv P s t (.v (.int n i)) k = withI (intT P t) (fun m => withO (intT P s) fun _ => k (.v (.int m (m.wrap i)))) (withO (intT P s) fun _ => isStringT P t = true ∧ (0 ≤ i ∧ i < 128) ∧ k (.v (.string (strOfNums [i])))) := by
  cases h1 : intT P t <;> cases h2 : intT P s <;> simp [aconv, withO, withI, h1, h2]
theorem aconv_str {s t x} : aconv P s t (.v (.string x)) k = if isStringT P s ∧ isStringT P t then k (.v (.string x)) else False := (rfl)
theorem aslice_lh {t es n a m b} : aslice P G t (.sl es) (some (.v (.int n a))) (some (.v (.int m b))) k = withO (elemT P t) fun e => (gt G → (0 ≤ a ∧ a ≤ b ∧ b ≤ es.length) ∧ allLen e.2.1 es) ∧ k (.sl ((es.take b.toNat).drop a.toNat)) := by
  cases h1 : elemT P t <;> simp [aslice, withO, h1]
theorem aslice_l {t es n a} : aslice P G t (.sl es) (some (.v (.int n a))) none k = withO (elemT P t) fun e => (gt G → (0 ≤ a ∧ a ≤ es.length) ∧ allLen e.2.1 es) ∧ k (.sl (es.drop a.toNat)) := by
  cases h1 : elemT P t <;> simp [aslice, withO, h1]
theorem aslice_h {t es m b} : aslice P G t (.sl es) none (some (.v (.int m b))) k = withO (elemT P t) fun _ => (gt G → 0 ≤ b ∧ b ≤ es.length) ∧ k (.sl (es.take b.toNat)) := by
  cases h1 : elemT P t <;> simp [aslice, withO, h1]
theorem aslice_slh {t s n a m b} : aslice P G t (.v (.string s)) (some (.v (.int n a))) (some (.v (.int m b))) k = if isStringT P t then (gt G → 0 ≤ a ∧ a ≤ b ∧ b ≤ s.size) ∧ k (.v (.string (s.extract a.toNat b.toNat))) else False := (rfl)
theorem aslice_sl {t s n a} : aslice P G t (.v (.string s)) (some (.v (.int n a))) none k = if isStringT P t then (gt G → 0 ≤ a ∧ a ≤ s.size) ∧ k (.v (.string (s.extract a.toNat s.size))) else False := (rfl)
theorem aslice_sh {t s m b} : aslice P G t (.v (.string s)) none (some (.v (.int m b))) k = if isStringT P t then (gt G → 0 ≤ b ∧ b ≤ s.size) ∧ k (.v (.string (s.extract 0 b.toNat))) else False := (rfl)
@[congr] theorem aclip3_c {P : Program} {H : Heap} {t x x' a a' b b' m m'} (h : x = x') (h1 : a = a') (h2 : b = b') (h3 : m = m') : aclip3 P G H t x a b m k = aclip3 P G H t x' a' b' m' k := h ▸ h1 ▸ h2 ▸ h3 ▸ rfl
@[congr] theorem aclip_c {P : Program} {t x x' a a' b b'} (h : x = x') (h1 : a = a') (h2 : b = b') : aclip P G t x a b k = aclip P G t x' a' b' k := h ▸ h1 ▸ h2 ▸ rfl
theorem aindex_st {t s n i} : aindex P G t (.v (.string s)) (.v (.int n i)) k = if isStringT P t then (gt G → 0 ≤ i ∧ i < s.size) ∧ k (.v (.int .u8 ((s.data.getD i.toNat 0).toNat : Int))) else False := (rfl)
theorem wcells_agg {cs} {k : List AV → Prop} : wcells (.agg cs) k = k cs := (rfl)
theorem wcells_v {v} {k : List AV → Prop} : wcells (.v v) k = (v.oneCell' = true ∧ k [.v v]) := (rfl)
theorem wcells_sl {es} {k : List AV → Prop} : wcells (.sl es) k = k [.sl es] := (rfl)
theorem wcells_rp {cs o} {k : List AV → Prop} : wcells (.rp cs o) k = k [.rp cs o] := (rfl)
theorem wcells_os {j} {k : List AV → Prop} : wcells (.os j) k = k [.os j] := (rfl)
theorem wcells_op {j i f} {k : List AV → Prop} : wcells (.op j i f) k = k [.op j i f] := (rfl)
theorem wcells_oz {j a b} {k : List AV → Prop} : wcells (.oz j a b) k = k [.oz j a b] := (rfl)
theorem wcells_om {j} {k : List AV → Prop} : wcells (.om j) k = k [.om j] := (rfl)
theorem abuild_eq {t l} : abuild P t l k = withO (zeroT P t) fun z => withO (partsT P t) fun pl => withO (afill pl z l) fun cs => k (.agg cs) := by
  cases h1 : zeroT P t with
  | none => simp [abuild, withO, h1]
  | some z => cases h2 : partsT P t with
    | none => simp [abuild, withO, h1, h2]
    | some pl => cases h3 : afill pl z l <;> simp [abuild, withO, h1, h2, h3]
def wgd (x : AV) (w : Bool) (F : Option Bool → Prop) : Prop := match x with
  | .v (.bool b) => F (some (b == w))
  | .gd g (.v (.bool b)) => F (some (g && (b == w)))
  | _ => False
@[congr] theorem wgd_c {x x' w F} (h : x = x') : wgd x w F = wgd x' w F := h ▸ rfl
theorem wgd_v {b w F} : wgd (.v (.bool b)) w F = F (some (b == w)) := (rfl)
theorem wgd_g {g b w F} : wgd (.gd g (.v (.bool b))) w F = F (some (g && (b == w))) := (rfl)
theorem wguard_none {F} : wguard ops ρ none F = F none := (rfl)
theorem wguard_some {j w F} : wguard ops ρ (some (j, w)) F = withO ((ops[j]?).bind (·.dst)) fun t => wgd (ρ t) w F := by
  cases h1 : (ops[j]?).bind (·.dst) with
  | none => simp [wguard, withO, h1]
  | some t => simp only [wguard, withO, h1, wgd]
def kont (K : Env → Heap → Prop) (ρ : Env) (d : Option Tmp) (G : Option Bool) (H : Heap) (x : AV) : Prop := K (upd ρ d (wr G x)) H
theorem kont_none {x} : kont K ρ d none H x = K (upd ρ d x) H := (rfl)
theorem kont_some {b x} : kont K ρ d (some b) H x = K (upd ρ d (.gd b x)) H := (rfl)
end
section
variable {P : Program} {C : CallP} {PC : FuncId → List AV → Heap → AV → Prop} {mt : Nat → Bool} {q : Bool} {ops : Array Oper} {d : Option Tmp} {ty : TypeId} {pos : String} {aft : Array Edge} {gd : Option (Nat × Bool)} {ρ : Env} {H : Heap} {K : Env → Heap → Prop}
theorem aop_move {x} : aop P C PC mt q ops ⟨d, .move x, ty, pos, aft, gd⟩ ρ H K = wguard ops ρ gd fun G => if isMt mt d = true then G = none ∧ q = false ∧ afreeze x ρ d H K else wopd G (aev ρ x) (kont K ρ d G H) := (rfl)
theorem aop_pick {c a b} : aop P C PC mt q ops ⟨d, .pick c a b, ty, pos, aft, gd⟩ ρ H K = wguard ops ρ gd fun G => wopd G (aev ρ c) fun x => wpick G x (aev ρ a) (aev ρ b) (kont K ρ d G H) := (rfl)
theorem aop_build {t l} : aop P C PC mt q ops ⟨d, .build t l, ty, pos, aft, gd⟩ ρ H K = wguard ops ρ gd fun G => if isMt mt d = true then G = none ∧ (if q = true then wparts none ρ l.toList (fun l => withO (zeroT P t) fun z => withO (partsT P t) fun pl => withO (nilsT P t) fun nl => withO (afill pl (nilsV nl z) l) fun cs => kont K ρ d none H (.agg cs)) else
      wparts none ρ l.toList (fun l => withO (zeroT P t) fun z => withO (partsT P t) fun pl => withO (nilsT P t) fun nl => ownNils nl z H fun z H => withO (afill pl z l) fun cs => kont K ρ d none H (.agg cs)))
    else wparts G ρ l.toList fun l => abuild P t l (kont K ρ d G H) := by
  show wguard ops ρ gd (fun G => if isMt mt d = true then G = none ∧ (if q = true then abuildQ P ⟨d, .build t l, ty, pos, aft, gd⟩ t l.toList ρ H K else abuildN P ⟨d, .build t l, ty, pos, aft, gd⟩ t l.toList ρ H K) else _) = _
  congr 1; funext G; congr 3
  · unfold abuildQ
    congr 1; funext l
    cases h1 : zeroT P t with
    | none => simp [withO]
    | some z => cases h2 : partsT P t with
      | none => simp [withO]
      | some pl => cases h3 : nilsT P t with
        | none => simp [withO]
        | some nl => simp only [withO]; cases h4 : afill pl (nilsV nl z) l <;> rfl
  unfold abuildN
  congr 1; funext l
  cases h1 : zeroT P t with
  | none => simp [withO]
  | some z => cases h2 : partsT P t with
    | none => simp [withO]
    | some pl => cases h3 : nilsT P t with
      | none => simp [withO]
      | some nl => simp only [withO]; congr 1; funext z H; cases h4 : afill pl z l <;> rfl
theorem aop_load {t x} : aop P C PC mt q ops ⟨d, .load t x, ty, pos, aft, gd⟩ ρ H K = wguard ops ρ gd fun G => if isMt mt d = true then G = none ∧ q = false ∧ withO (ldT P t) fun l => wopd none (aev ρ x) fun y => aload none H l y fun z => athaw z ρ d H K else withO (ldT P t) fun l => wopd G (aev ρ x) fun y => aload G H l y (kont K ρ d G H) := by
  show wguard ops ρ gd (fun G => if isMt mt d = true then G = none ∧ q = false ∧ apure P none ρ H (.load t x) fun z => athaw z ρ d H K else apure P G ρ H (.load t x) (kont K ρ d G H)) = _
  congr 1; funext G; cases h1 : ldT P t <;> simp [apure, withO, h1]
theorem aop_nilCheck {x} : aop P C PC mt q ops ⟨d, .nilCheck x, ty, pos, aft, gd⟩ ρ H K = wguard ops ρ gd fun G => wopd G (aev ρ x) fun y => wptr G y (kont K ρ d G H) := (rfl)
theorem aop_bin {op t x y t'} : aop P C PC mt q ops ⟨d, .binOp op t x y t', ty, pos, aft, gd⟩ ρ H K = wguard ops ρ gd fun G => if isNilC y = true then wopd G (aev ρ x) fun x => isSliceT P t = true ∧ aeqNil H op x (kont K ρ d G H) else if isIfC y = true then wopd G (aev ρ x) fun x => aifNil P t op x (kont K ρ d G H) else wopd G (aev ρ x) fun x => wopd G (aev ρ y) fun y => abin P G op t x y (kont K ρ d G H) := (rfl)
theorem aop_un {op t x} : aop P C PC mt q ops ⟨d, .unOp op t x, ty, pos, aft, gd⟩ ρ H K = wguard ops ρ gd fun G => wopd G (aev ρ x) fun x => aun op x (kont K ρ d G H) := (rfl)
theorem aop_mkif {t x} : aop P C PC mt q ops ⟨d, .makeInterface t x, ty, pos, aft, gd⟩ ρ H K = wguard ops ρ gd fun G => wopd G (aev ρ x) fun x => aiface P t x (kont K ρ d G H) := (rfl)
theorem aop_assert {x xt t} : aop P C PC mt q ops ⟨d, .typeAssert x xt t true, ty, pos, aft, gd⟩ ρ H K = wguard ops ρ gd fun G => wopd G (aev ρ x) fun x => aassert P t x (kont K ρ d G H) := (rfl)
theorem aop_conv {s t x} : aop P C PC mt q ops ⟨d, .convert s t x, ty, pos, aft, gd⟩ ρ H K = wguard ops ρ gd fun G => wopd G (aev ρ x) fun x => aconv P s t x (kont K ρ d G H) := (rfl)
theorem aop_slice_lh {t x lo hi} : aop P C PC mt q ops ⟨d, .slice t x (some lo) (some hi) none, ty, pos, aft, gd⟩ ρ H K = wguard ops ρ gd fun G => wopd G (aev ρ x) fun x => wopd G (aev ρ lo) fun lo => wopd G (aev ρ hi) fun hi => asl P G H t x (some lo) (some hi) (kont K ρ d G H) := (rfl)
theorem aop_slice_c {t x hi m} : aop P C PC mt q ops ⟨d, .slice t x none (some hi) (some m), ty, pos, aft, gd⟩ ρ H K = wguard ops ρ gd fun G => wopd G (aev ρ x) fun x => wopd G (aev ρ hi) fun hi => wopd G (aev ρ m) fun m => aclip P G t x hi m (kont K ρ d G H) := (rfl)
theorem aop_slice_c3 {t x lo hi m} : aop P C PC mt q ops ⟨d, .slice t x (some lo) (some hi) (some m), ty, pos, aft, gd⟩ ρ H K = wguard ops ρ gd fun G => wopd G (aev ρ x) fun x => wopd G (aev ρ lo) fun lo => wopd G (aev ρ hi) fun hi => wopd G (aev ρ m) fun m => aclip3 P G H t x lo hi m (kont K ρ d G H) := (rfl)
theorem aop_slice_l {t x lo} : aop P C PC mt q ops ⟨d, .slice t x (some lo) none none, ty, pos, aft, gd⟩ ρ H K = wguard ops ρ gd fun G => wopd G (aev ρ x) fun x => wopd G (aev ρ lo) fun lo => asl P G H t x (some lo) none (kont K ρ d G H) := (rfl)
theorem aop_slice_h {t x hi} : aop P C PC mt q ops ⟨d, .slice t x none (some hi) none, ty, pos, aft, gd⟩ ρ H K = wguard ops ρ gd fun G => wopd G (aev ρ x) fun x => wopd G (aev ρ hi) fun hi => asl P G H t x none (some hi) (kont K ρ d G H) := (rfl)
theorem aop_fieldAddr {t x f} : aop P C PC mt q ops ⟨d, .fieldAddr t x f, ty, pos, aft, gd⟩ ρ H K = wguard ops ρ gd fun G => wopd G (aev ρ x) fun x => afieldAddr P t f x (kont K ρ d G H) := (rfl)
theorem aop_indexAddr {t x i} : aop P C PC mt q ops ⟨d, .indexAddr t x i, ty, pos, aft, gd⟩ ρ H K = wguard ops ρ gd fun G => wopd G (aev ρ x) fun x => wopd G (aev ρ i) fun i => aindexAddr P G H t x i (kont K ρ d G H) := (rfl)
theorem aop_index {t x i} : aop P C PC mt q ops ⟨d, .index t x i, ty, pos, aft, gd⟩ ρ H K = wguard ops ρ gd fun G => wopd G (aev ρ x) fun x => wopd G (aev ρ i) fun i => aindex P G t x i (kont K ρ d G H) := (rfl)
theorem aop_extract {x i} : aop P C PC mt q ops ⟨d, .extract x i, ty, pos, aft, gd⟩ ρ H K = wguard ops ρ gd fun G => wopd G (aev ρ x) fun x => wtup G x i (kont K ρ d G H) := (rfl)
theorem aop_assign {x} : aop P C PC mt q ops ⟨d, .assign x, ty, pos, aft, gd⟩ ρ H K = wguard ops ρ gd fun G => if isMt mt d = true ∧ G = none ∧ q = false ∧ isNilC x = true then withO (elemT P ty) fun e => anew H ⟨e.1, e.2.1, []⟩ (kontO K ρ d) else wopd G (aev ρ x) (kont K ρ d G H) := by
  show wguard ops ρ gd (fun G => aassign P mt q G ⟨d, .assign x, ty, pos, aft, gd⟩ x ρ H K) = _
  congr 1; funext G
  unfold aassign
  cases h1 : elemT P ty <;> rfl
theorem aop_alloc {t} : aop P C PC mt q ops ⟨d, .alloc t, ty, pos, aft, gd⟩ ρ H K = wguard ops ρ gd fun G => withO (zeroT P t) fun z => G = none ∧ q = false ∧ (if isMt mt d = true then withO (nilsT P t) fun nl => ownNils nl z H fun z H => anew H ⟨t, z.length, [z]⟩ (kontP K ρ d) else anew H ⟨t, z.length, [z]⟩ (kontP K ρ d)) := by
  show wguard ops ρ gd (fun G => match zeroT P t with
    | some z => G = none ∧ q = false ∧ (if isMt mt d = true then match nilsT P t with
        | some nl => ownNils nl z H fun z H => anew H ⟨t, z.length, [z]⟩ fun k H' => K (upd ρ d (.op k 0 0)) H'
        | none => False
      else anew H ⟨t, z.length, [z]⟩ fun k H' => K (upd ρ d (.op k 0 0)) H')
    | none => False) = _
  congr 1; funext G; cases h1 : zeroT P t <;> cases h2 : nilsT P t <;> rfl
theorem aop_box {t x} : aop P C PC mt q ops ⟨d, .box t x, ty, pos, aft, gd⟩ ρ H K = wguard ops ρ gd fun G => G = none ∧ q = false ∧ wopd G (aev ρ x) fun x => wcells x fun cs =>
    if isMt mt d = true then 0 < cs.length ∧ anew H ⟨t, cs.length, [cs]⟩ (kontP K ρ d) else K (upd ρ d (.rp cs 0)) H := (rfl)
theorem aop_buildSlice {t n l} : aop P C PC mt q ops ⟨d, .buildSlice t n l, ty, pos, aft, gd⟩ ρ H K = wguard ops ρ gd fun G => q = false ∧ wparts G ρ l.toList fun l => withO (elemT P t) fun e =>
    (l.map (·.1) = iota 0 n ∧ allLen e.2.1 (l.map (·.2)) ∧ n * e.2.1 ≤ 16777216) ∧ (if isMt mt d = true ∧ G = none then anew H ⟨e.1, e.2.1, l.map (·.2)⟩ (kontO K ρ d) else kont K ρ d G H (.sl (l.map (·.2)))) := by
  show wguard ops ρ gd (fun G => q = false ∧ wparts G ρ l.toList fun l' => abuildSlice P mt G ⟨d, .buildSlice t n l, ty, pos, aft, gd⟩ t n l' ρ H K) = _
  congr 1; funext G; congr 2; funext l; unfold abuildSlice; cases h1 : elemT P t <;> rfl
theorem aop_store {t x y} : aop P C PC mt q ops ⟨d, .store t x y, ty, pos, aft, gd⟩ ρ H K = wguard ops ρ gd fun G => G = none ∧ q = false ∧ (if isNilC y = true then wopd G (aev ρ x) fun x => withO (elemT P t) fun e => anew H ⟨e.1, e.2.1, []⟩ (fun j H => wput P d t x [.os j] ρ H K) else wopd G (aev ρ x) fun x => wopd G (aev ρ y) fun y => wcells y fun cs => wput P d t x cs ρ H K) := by
  show wguard ops ρ gd (fun G => G = none ∧ q = false ∧ (if isNilC y = true then wopd G (aev ρ x) fun a => match elemT P t with
        | some (e, sz, _) => anew H ⟨e, sz, []⟩ fun k H => astoreN P _ t a [.os k] ρ H K
        | none => False
      else wopd G (aev ρ x) fun a => wopd G (aev ρ y) fun x => wcells x fun cs => astoreN P _ t a cs ρ H K)) = _
  congr 1; funext G; congr 4; funext a
  cases h1 : elemT P t <;> rfl
theorem amix_nil : amix P C PC mt ops K [] ρ H = K ρ H := (rfl)
theorem amix_t {k f} : amix P C PC mt ops K ((k, true) :: f) ρ H = withO ops[k]? fun o => aop P C PC mt true ops o ρ (qH o H) fun ρ' _ => amix P C PC mt ops K f ρ' H := by
  cases h : ops[k]? <;> simp [amix, withO, h]
theorem amix_f {k f} : amix P C PC mt ops K ((k, false) :: f) ρ H = withO ops[k]? fun o => aop P C PC mt false ops o ρ H (amix P C PC mt ops K f) := by
  cases h : ops[k]? <;> simp [amix, withO, h]
theorem amixp_nil {Hp} : amixp P C PC mt ops K Hp [] ρ H = K ρ H := (rfl)
theorem amixp_t {Hp k f} : amixp P C PC mt ops K Hp ((k, true) :: f) ρ H = withO ops[k]? fun o => aop P C PC mt true ops o ρ Hp fun ρ' _ => amixp P C PC mt ops K Hp f ρ' H := by
  cases h : ops[k]? <;> simp [amixp, withO, h]
theorem amixp_f {Hp k f} : amixp P C PC mt ops K Hp ((k, false) :: f) ρ H = withO ops[k]? fun o => aop P C PC mt false ops o ρ H (amixp P C PC mt ops K Hp f) := by
  cases h : ops[k]? <;> simp [amixp, withO, h]
theorem aopO_e {k} : aopO P C PC mt q ops k ρ H K = withO ops[k]? fun o => aop P C PC mt q ops o ρ H K := by
  cases h : ops[k]? <;> simp [aopO, withO, h]
theorem amixt_nil {Hp} : amixt P C PC mt ops K Hp .nil ρ H = K ρ H := (rfl)
theorem amixt_q {Hp k t} : amixt P C PC mt ops K Hp (.q k t) ρ H = aopO P C PC mt true ops k ρ Hp fun ρ' _ => amixt P C PC mt ops K Hp t ρ' H := (rfl)
theorem amixt_1 {Hp k t} : amixt P C PC mt ops K Hp (.a1 k t) ρ H = aopO P C PC mt false ops k ρ H (amixt P C PC mt ops K Hp t) := (rfl)
theorem aop_makeFunc {f cap} : aop P C PC mt q ops ⟨d, .makeFunc (.func f) #[] cap, ty, pos, aft, gd⟩ ρ H K = wguard ops ρ gd fun G => wopds G ρ cap.toList fun l => kont K ρ d G H (.fn f l) := by
  show wguard ops ρ gd (fun G => apure P G ρ H (.makeFunc (.func f) #[] cap) (kont K ρ d G H)) = _
  congr 1; funext G; simp [apure]
def kontM (K : Env → Heap → Prop) (ρ : Env) (d : Option Tmp) (j : Nat) (H : Heap) : Prop := K (upd ρ d (.om j)) H
theorem kontM_eq {j} : kontM K ρ d j H = K (upd ρ d (.om j)) H := (rfl)
theorem aop_lookup {t x i ok} : aop P C PC mt q ops ⟨d, .lookup t x i ok, ty, pos, aft, gd⟩ ρ H K = wguard ops ρ gd fun G => wopd G (aev ρ x) fun x => wopd G (aev ρ i) fun i => alookup P H t x i ok (kont K ρ d G H) := (rfl)
theorem aop_makeMap {t} : aop P C PC mt q ops ⟨d, .makeMap t none, ty, pos, aft, gd⟩ ρ H K = wguard ops ρ gd fun G => G = none ∧ q = false ∧ anew H ⟨0, 2, []⟩ (kontM K ρ d) := (rfl)
def wmapU (P : Program) (d : Option Tmp) (t : TypeId) (m x v : AV) (ρ : Env) (H : Heap) (K : Env → Heap → Prop) : Prop := amapUpdate P ⟨d, .move (.tmp 0), 0, "", #[], none⟩ t m x v ρ H K
@[congr] theorem wmapU_c {P d t m m' x x' v v' ρ H K} (h0 : m = m') (h1 : x = x') (h2 : v = v') : wmapU P d t m x v ρ H K = wmapU P d t m' x' v' ρ H K := h0 ▸ h1 ▸ h2 ▸ rfl
def wmapE (P : Program) (d : Option Tmp) (t : TypeId) (m x : AV) (ρ : Env) (H : Heap) (K : Env → Heap → Prop) : Prop := amapEntry P ⟨d, .move (.tmp 0), 0, "", #[], none⟩ t m x ρ H K
@[congr] theorem wmapE_c {P d t m m' x x' ρ H K} (h0 : m = m') (h1 : x = x') : wmapE P d t m x ρ H K = wmapE P d t m' x' ρ H K := h0 ▸ h1 ▸ rfl
def wmapS (d : Option Tmp) (m s v : AV) (ρ : Env) (H : Heap) (K : Env → Heap → Prop) : Prop := aentryStore ⟨d, .move (.tmp 0), 0, "", #[], none⟩ m s v ρ H K
@[congr] theorem wmapS_c {d m m' x x' v v' ρ H K} (h0 : m = m') (h1 : x = x') (h2 : v = v') : wmapS d m x v ρ H K = wmapS d m' x' v' ρ H K := h0 ▸ h1 ▸ h2 ▸ rfl
@[congr] theorem alookup_c {P H t x x' i i' ok k} (h0 : x = x') (h1 : i = i') : alookup P H t x i ok k = alookup P H t x' i' ok k := h0 ▸ h1 ▸ rfl
theorem aop_mapUpdate {t m x v} : aop P C PC mt q ops ⟨d, .mapUpdate t m x v, ty, pos, aft, gd⟩ ρ H K = wguard ops ρ gd fun G => G = none ∧ q = false ∧ wopd G (aev ρ m) fun m => wopd G (aev ρ x) fun x => wopd G (aev ρ v) fun v => wmapU P d t m x v ρ H K := (rfl)
theorem aop_insert {t m x v} : aop P C PC mt q ops ⟨d, .insert t m x v, ty, pos, aft, gd⟩ ρ H K = wguard ops ρ gd fun G => G = none ∧ q = false ∧ wopd G (aev ρ m) fun m => wopd G (aev ρ x) fun x => wopd G (aev ρ v) fun v => wmapU P d t m x v ρ H K := (rfl)
theorem aop_mapEntry {t m x} : aop P C PC mt q ops ⟨d, .mapEntry t m x, ty, pos, aft, gd⟩ ρ H K = wguard ops ρ gd fun G => G = none ∧ q = false ∧ wopd G (aev ρ m) fun m => wopd G (aev ρ x) fun x => wmapE P d t m x ρ H K := (rfl)
theorem aop_entryStore {t m s v} : aop P C PC mt q ops ⟨d, .entryStore t m s v, ty, pos, aft, gd⟩ ρ H K = wguard ops ρ gd fun G => G = none ∧ q = false ∧ wopd G (aev ρ m) fun m => wopd G (aev ρ s) fun s => wopd G (aev ρ v) fun v => wmapS d m s v ρ H K := (rfl)
theorem alookup_i {t j key ok k r kt oi z} (hj : H j = some r) (ht : mapT P t = some kt) (hp : plainKey P kt.1 key = true) (hf : mfind (keyEq P kt.1 key) r.es 0 = some oi) (hz : zeroE P kt.2 = some z) (h : k (mget ok z r.es oi)) : alookup P H t (.om j) key ok k := by
  unfold alookup mapOf
  simp only [hj, ht, hf, hz]
  exact ⟨hp, h⟩
theorem wmapU_i {t j key v r kt oi} (hj : H j = some r) (ht : mapT P t = some kt) (hp : plainKey P kt.1 key = true) (hf : mfind (keyEq P kt.1 key) r.es 0 = some oi) (h : K (upd ρ d .any) (updH H j (some { r with es := mput r.es oi key v }))) : wmapU P d t (.om j) key v ρ H K := by
  unfold wmapU amapUpdate mapOf
  simp only [hj, ht, hf]
  exact ⟨hp, h⟩
theorem aop_makeSlice {t l c} : aop P C PC mt q ops ⟨d, .makeSlice t l c, ty, pos, aft, gd⟩ ρ H K = wguard ops ρ gd fun G => G = none ∧ q = false ∧ wopd G (aev ρ l) fun l => wopd G (aev ρ c) fun c => wmake P d t l c ρ H K := (rfl)
theorem aop_calld {t args tys} : aop P C PC mt q ops ⟨d, .call ⟨.value (.tmp t), args, tys⟩, ty, pos, aft, gd⟩ ρ H K = wguard ops ρ gd fun G => wopd G (ρ t) fun x => withO (fnOf x) fun y => if isMt mt d = true then gt G ∧ q = false ∧ callOk P y.1 = true ∧ C y.1 (y.2.1 ++ args.toList.map (aevn ρ) ++ y.2.2) H (kontR K ρ d) else wopds G ρ args.toList fun l =>
    callOk P y.1 = true ∧ (if G = none ∧ q = false then C y.1 (y.2.1 ++ l ++ y.2.2) H (kontR K ρ d) else ∃ r, (gt G → PC y.1 (y.2.1 ++ l ++ y.2.2) H r) ∧ nfq q r (kont K ρ d G H)) := by
  show wguard ops ρ gd (fun G => acall P C PC (isMt mt d) q G ⟨d, .call ⟨.value (.tmp t), args, tys⟩, ty, pos, aft, gd⟩ ⟨.value (.tmp t), args, tys⟩ ρ H K) = _
  congr 1; funext G
  simp only [acall, aev]
  congr 1; funext x
  cases h : fnOf x with
  | none => simp [withO]
  | some y => obtain ⟨a, b, c⟩ := y; rfl
theorem aop_call {f args tys} : aop P C PC mt q ops ⟨d, .call ⟨.value (.func f), args, tys⟩, ty, pos, aft, gd⟩ ρ H K = wguard ops ρ gd fun G => if isMt mt d = true then gt G ∧ q = false ∧ callOk P f = true ∧ C f (args.toList.map (aevn ρ)) H (kontR K ρ d) else wopds G ρ args.toList fun l =>
    callOk P f = true ∧ (if G = none ∧ q = false then C f l H (kontR K ρ d) else ∃ r, (gt G → PC f l H r) ∧ nfq q r (kont K ρ d G H)) := by
  show wguard ops ρ gd (fun G => acall P C PC (isMt mt d) q G ⟨d, .call ⟨.value (.func f), args, tys⟩, ty, pos, aft, gd⟩ ⟨.value (.func f), args, tys⟩ ρ H K) = _
  congr 1; funext G
  simp only [acall, aev, wopd, fnOf, List.map_nil, List.nil_append, List.append_nil]
  rfl
theorem aevn_tmp {t} : aevn ρ (.tmp t) = ρ t := (rfl)
theorem aevn_const {v} : aevn ρ (.const v) = .v v := (rfl)
theorem aevn_func {f} : aevn ρ (.func f) = .v (.func (.func f) #[] #[]) := (rfl)
theorem aop_len {x t} : aop P C PC mt q ops ⟨d, .call ⟨.builtin .len, #[x], #[t]⟩, ty, pos, aft, gd⟩ ρ H K = wguard ops ρ gd fun G => wopd G (aev ρ x) fun x => alen P H t x (kont K ρ d G H) := (rfl)
theorem aop_max {x y t t'} : aop P C PC mt q ops ⟨d, .call ⟨.builtin .max, #[x, y], #[t, t']⟩, ty, pos, aft, gd⟩ ρ H K = wguard ops ρ gd fun G => wopd G (aev ρ x) fun x => wopd G (aev ρ y) fun y => amax x y (kont K ρ d G H) := (rfl)
theorem aop_min {x y t t'} : aop P C PC mt q ops ⟨d, .call ⟨.builtin .min, #[x, y], #[t, t']⟩, ty, pos, aft, gd⟩ ρ H K = wguard ops ρ gd fun G => wopd G (aev ρ x) fun x => wopd G (aev ρ y) fun y => amin x y (kont K ρ d G H) := (rfl)
theorem amax_v {n m a b} {k : AV → Prop} : amax (.v (.int n a)) (.v (.int m b)) k = k (.v (.int n (imax a b))) := (rfl)
theorem amin_v {n m a b} {k : AV → Prop} : amin (.v (.int n a)) (.v (.int m b)) k = k (.v (.int n (imin a b))) := (rfl)
theorem aop_copy {x y t t'} : aop P C PC mt q ops ⟨d, .call ⟨.builtin .copy, #[x, y], #[t, t']⟩, ty, pos, aft, gd⟩ ρ H K = wguard ops ρ gd fun G => wopd G (aev ρ x) fun x => wopd G (aev ρ y) fun y =>
    if G = none ∧ q = false then wcopy P d t x y ρ H K else False := (rfl)
theorem aop_clear {x t} : aop P C PC mt q ops ⟨d, .call ⟨.builtin .clear, #[x], #[t]⟩, ty, pos, aft, gd⟩ ρ H K = wguard ops ρ gd fun G => wopd G (aev ρ x) fun x =>
    if G = none ∧ q = false then wclear P d t x ρ H K else False := (rfl)
theorem asl_sl {G : Option Bool} {k : AV → Prop} {t es lo hi} : asl P G H t (.sl es) lo hi k = aslice P G t (.sl es) lo hi k := (rfl)
theorem asl_v {G : Option Bool} {k : AV → Prop} {t v lo hi} : asl P G H t (.v v) lo hi k = aslice P G t (.v v) lo hi k := (rfl)
theorem aeqNil_e {H : Heap} {k : AV → Prop} {es} : aeqNil H .eql (.sl es) k = ((es = [] → k (.v (.bool true))) ∧ k (.v (.bool false))) := (rfl)
theorem aeqNil_n {H : Heap} {k : AV → Prop} {es} : aeqNil H .neq (.sl es) k = ((es = [] → k (.v (.bool false))) ∧ k (.v (.bool true))) := (rfl)
theorem aeqNil_eo {H : Heap} {k : AV → Prop} {j} : aeqNil H .eql (.os j) k = ((emptyO H j → k (.v (.bool true))) ∧ k (.v (.bool false))) := (rfl)
theorem aeqNil_en {H : Heap} {k : AV → Prop} : aeqNil H .eql (.v (.slice none 0 0)) k = k (.v (.bool true)) := (rfl)
theorem aifNil_e {t} {k : AV → Prop} : aifNil P t .eql (.v .nilIface) k = (isIfT P t = true ∧ k (.v (.bool true))) := (rfl)
theorem aifNil_n {t} {k : AV → Prop} : aifNil P t .neq (.v .nilIface) k = (isIfT P t = true ∧ k (.v (.bool false))) := (rfl)
theorem aeqNil_nn {H : Heap} {k : AV → Prop} : aeqNil H .neq (.v (.slice none 0 0)) k = k (.v (.bool false)) := (rfl)
theorem aeqNil_no {H : Heap} {k : AV → Prop} {j} : aeqNil H .neq (.os j) k = ((emptyO H j → k (.v (.bool false))) ∧ k (.v (.bool true))) := (rfl)
theorem aop_append {s x t t'} : aop P C PC mt q ops ⟨d, .call ⟨.builtin .append, #[s, x], #[t, t']⟩, ty, pos, aft, gd⟩ ρ H K = wguard ops ρ gd fun G => wopd G (aev ρ s) fun s => wopd G (aev ρ x) fun x =>
    if t = t' ∧ G = none ∧ q = false then wapp P d t s x ρ H K else if G = none ∧ q = false then wappS P d t t' s x ρ H K else False := (rfl)
end
section
variable {P : Program} {d : Option Tmp} {ρ : Env} {H : Heap} {K : Env → Heap → Prop}
theorem wmake_E {t n a m b} : wmake P d t (.v (.int n a)) (.v (.int m b)) ρ H K = withO (elemT P t) fun e => withO (zeroT P e.1) fun z => ((0 ≤ a ∧ a ≤ b) ∧ (e.2.2 : Int) * b ≤ 140737488355328) ∧ anew H ⟨e.1, e.2.1, List.replicate a.toNat z⟩ (kontO K ρ d) := by
  unfold wmake amakeSlice
  cases h1 : elemT P t with
  | none => simp [withO]
  | some e => obtain ⟨x, y, z⟩ := e; cases h2 : zeroT P x <;> simp [withO, h2] <;> intros <;> rfl
theorem fnOf_v {f first captured} : fnOf (.v (.func (.func f) first captured)) = some (f, first.toList.map .v, captured.toList.map .v) := (rfl)
theorem nfq_v {q x} {k : AV → Prop} : nfq q (.v x) k = k (.v x) := by cases q <;> rfl
theorem nfq_nf {x} {k : AV → Prop} : nfq false (.nf x) k = k x := (rfl)
theorem fnOf_fn {f l} : fnOf (.fn f l) = some (f, [], l) := (rfl)
end
@[congr] theorem asl_c {P G H t x x' lo lo' hi hi' k} (h : x = x') (h1 : lo = lo') (h2 : hi = hi') : asl P G H t x lo hi k = asl P G H t x' lo' hi' k := h ▸ h1 ▸ h2 ▸ rfl
@[congr] theorem aifNil_c {Q : Program} {t : TypeId} {op x x' k} (h : x = x') : aifNil Q t op x k = aifNil Q t op x' k := h ▸ rfl
@[congr] theorem aeqNil_c {H : Heap} {op x x' k} (h : x = x') : aeqNil H op x k = aeqNil H op x' k := h ▸ rfl
theorem lappend_cons {α : Type} {a : α} {l r : List α} : List.append (a :: l) r = a :: List.append l r := (rfl)
theorem lappend_nil {α : Type} {r : List α} : List.append [] r = r := (rfl)
attribute [go_sem] lappend_cons lappend_nil
attribute [go_sem] qH
@[congr] theorem amax_c {x x' y y' K} (h : x = x') (h' : y = y') : amax x y K = amax x' y' K := h ▸ h' ▸ rfl
@[congr] theorem amin_c {x x' y y' K} (h : x = x') (h' : y = y') : amin x y K = amin x' y' K := h ▸ h' ▸ rfl
attribute [go_sem ↓] aop_max aop_min amax_v amin_v
attribute [go_sem] amax_v amin_v
@[congr] theorem pinEnd_c {l l' H K ρ H'} (h : l = l') : pinEnd l H K ρ H' = pinEnd l' H K ρ H' := h ▸ rfl
attribute [go_sem] nilsV List.set_cons_zero List.set_cons_succ
attribute [go_sem ↓] amixt_nil amixt_q amixt_1 aopO_e
attribute [go_sem ↓] amixp_nil amixp_t amixp_f
attribute [go_sem ↓] amix_nil amix_t amix_f aop_copy aop_clear asl_sl asl_v aeqNil_e aeqNil_n aeqNil_eo aeqNil_no aeqNil_en aeqNil_nn aifNil_e aifNil_n
attribute [go_sem ↓] alen_oz
attribute [go_sem] alen_oz
attribute [go_sem] asl_sl asl_v aeqNil_e aeqNil_n aeqNil_eo aeqNil_no aeqNil_en aeqNil_nn aifNil_e aifNil_n
attribute [go_sem ↓] nfq_v nfq_nf
attribute [go_sem ↓] aop_lookup aop_makeMap aop_mapUpdate aop_insert aop_mapEntry aop_entryStore wopd_om kontM_eq
attribute [go_sem] wopd_om kontM_eq
attribute [go_sem] nfq_v nfq_nf
attribute [go_sem ↓] aop_slice_c3 aop_makeFunc aop_makeSlice aop_calld wmake_E wopd_fn wopd_oz wopd_cl aop_slice_c
attribute [go_sem] wmake_E wopd_fn wopd_oz wopd_cl fnOf_v fnOf_fn
attribute [go_sem] drawN loudO
@[congr] theorem ownNils_c {l l' z z' H K} (h : l = l') (h' : z = z') : ownNils l z H K = ownNils l' z' H K := h ▸ h' ▸ rfl
theorem ownNils_nil {z H K} : ownNils [] z H K = K z H := (rfl)
theorem ownNils_cons {o e sz r z H K} : ownNils ((o, e, sz) :: r) z H K = anew H ⟨e, sz, []⟩ fun k H' => ownNils r (z.set o (.os k)) H' K := (rfl)
attribute [go_sem ↓] ownNils_nil ownNils_cons
attribute [go_sem ↓] awp_skip awp_region awp_draw awp_seq awp_cond awp_block awp_scope awp_label awp_loop awp_exit awp_ret aops_nil aops_cons seq_normal seq_exit seq_ret blk_normal blk_ret blk_same blk_other
attribute [go_sem ↓] wopds wparts aop_mkif aop_assert aop_move aop_pick aop_build aop_load aop_nilCheck aop_bin aop_un aop_conv aop_slice_lh aop_slice_l aop_slice_h aop_fieldAddr aop_indexAddr aop_index aop_extract aop_assign aop_alloc aop_box aop_buildSlice aop_store aop_call aop_len aop_append
attribute [go_sem ↓] aiface_v aassert_if wpick_v wptr_rp wptr_op wptr_nil wtup_eq abin_add abin_sub abin_quo abin_rem abin_eql abin_neq abin_lss abin_leq abin_gtr abin_geq abin_sadd abin_seql abin_sneq abin_beql abin_bneq abin_aeql apick_vv apick_vg apick_gv pickV_t pickV_f aload_rp1 aload_rpn aload_op1 aload_opn apart_1 apart_n alen_sl alen_os alen_st aindexAddr_sl aindexAddr_os aindexAddr_rp aindexAddr_op afieldAddr_rp afieldAddr_op aun_not aun_neg aconv_int withI_some withI_none aconv_str aslice_lh aslice_l aslice_h aslice_slh aslice_sl aslice_sh aindex_st wcells_agg wcells_v wcells_sl wcells_rp wcells_os wcells_op wcells_oz wcells_om abuild_eq wgd_v wgd_g wguard_none wguard_some wopd_v wopd_any wopd_sl wopd_rp wopd_agg wopd_tup wopd_os wopd_op wopd_gd withO_some kont_none kont_some kontO_eq kontP_eq kontR_eq aev_tmp aev_const aev_func aevn_tmp aevn_const aevn_func
attribute [go_sem] ptrNil aiface_v aassert_if wpick_v wptr_rp wptr_op wptr_nil wtup_eq abin_add abin_sub abin_quo abin_rem abin_eql abin_neq abin_lss abin_leq abin_gtr abin_geq abin_sadd abin_seql abin_sneq abin_beql abin_bneq abin_aeql apick_vv apick_vg apick_gv pickV_t pickV_f aload_rp1 aload_rpn aload_op1 aload_opn apart_1 apart_n alen_sl alen_os alen_st aindexAddr_sl aindexAddr_os aindexAddr_rp aindexAddr_op afieldAddr_rp afieldAddr_op aun_not aun_neg aconv_int withI_some withI_none aconv_str aslice_lh aslice_l aslice_h aslice_slh aslice_sl aslice_sh aindex_st wcells_agg wcells_v wcells_sl wcells_rp wcells_os wcells_op wcells_oz wcells_om abuild_eq wgd_v wgd_g wguard_none wguard_some wopd_v wopd_any wopd_sl wopd_rp wopd_agg wopd_tup wopd_os wopd_op wopd_gd withO_some kont_none kont_some kontO_eq kontP_eq kontR_eq aev_tmp aev_const aev_func aevn_tmp aevn_const aevn_func
attribute [go_sem] upd_at upd_none isMt isNilC isIfC zeroV env0 gt gok wr eqCell eqCells andO Value.oneCell' iota allLen numsOf Option.map_some afill setAt updH_same
attribute [go_sem] Bool.false_eq_true if_false if_true reduceCtorEq true_and and_true false_and and_false false_implies true_implies implies_true forall_const and_self imp_self ne_eq not_true_eq_false not_false_eq_true
attribute [go_sem] List.getD_cons_zero List.getD_cons_succ List.getD_nil List.length_cons List.length_nil List.drop_zero List.drop_succ_cons List.take_succ_cons List.take_zero Option.getD_some Option.getD_none Nat.zero_add Nat.add_zero List.map_cons List.map_nil List.cons_append List.nil_append List.append_nil
attribute [go_sem] Option.bind_some List.getElem?_toArray List.getElem?_cons_zero List.getElem?_cons_succ
attribute [go_sem ↓] reduceIte
attribute [go_sem] Nat.reduceEqDiff Nat.reduceAdd Nat.reduceMul Nat.reduceSub Nat.reduceLT Nat.reduceLeDiff Nat.reduceBEq
end Go.Aw
