/- Walks and plain laws, part 5 of 30: ; ; . Conditions: none beyond those that each theorem states. -/
import Derived.Test.YtjnmkdahbcmfaaaGreatB4
import Derived.OrdersIn
import Derived.RangeFuncLeaves
import Derived.Below
import Derived.Laws.CopyRow
import Derived.Laws.Cells
import Derived.Laws.Rows
/-  -/
set_option linter.unusedVariables false
namespace Go.Ev
/-! ### values -/
inductive FV where
  | int (k : IntKind) (n : Int)
  | bool (b : Bool)
  | str (s : List Nat)
  | ptr (i off : Nat)
  | slice (i off len : Nat) (cx : Bool) (cap : Nat)
  | nilp
  | nils
  | emp (i off cap q s : Nat)
  | map (i : Nat)
  | nilm
  | fn (f : FuncId) (first cap : List FV)
  | yl (i : Nat)
  | nilf
  | agg (cs : List FV)
  | tup (vs : List FV)
instance : Inhabited FV := ⟨.nilp⟩
def FV.cells : FV → List FV
  | .agg cs => cs
  | v => [v]
def FV.flat : FV → Bool
  | .agg _ => false
  | .tup _ => false
  | _ => true
def FV.cell : FV → Bool
  | .tup _ => false
  | _ => true
/-! ### temporaries: three levels of six -/
inductive D6 where | a | b | c | d | e | f
structure T1 where mk ::
  a : Option FV
  b : Option FV
  c : Option FV
  d : Option FV
  e : Option FV
  f : Option FV
structure T2 where mk ::
  a : T1
  b : T1
  c : T1
  d : T1
  e : T1
  f : T1
structure T3 where mk ::
  a : T2
  b : T2
  c : T2
  d : T2
  e : T2
  f : T2
inductive B1 where | mk (g : T1 → Option FV) (s : Option FV → T1 → T1)
inductive B2 where | mk (g : T2 → T1) (s : (T1 → T1) → T2 → T2)
inductive B3 where | mk (g : T3 → T2) (s : (T2 → T2) → T3 → T3)
noncomputable def b1 (x : D6) : B1 := @D6.rec (fun _ => B1)
  (.mk (fun t => t.a) (fun x t => @T1.rec (fun _ => T1) (fun a b c d e f => .mk x b c d e f) t))
  (.mk (fun t => t.b) (fun x t => @T1.rec (fun _ => T1) (fun a b c d e f => .mk a x c d e f) t))
  (.mk (fun t => t.c) (fun x t => @T1.rec (fun _ => T1) (fun a b c d e f => .mk a b x d e f) t))
  (.mk (fun t => t.d) (fun x t => @T1.rec (fun _ => T1) (fun a b c d e f => .mk a b c x e f) t))
  (.mk (fun t => t.e) (fun x t => @T1.rec (fun _ => T1) (fun a b c d e f => .mk a b c d x f) t))
  (.mk (fun t => t.f) (fun x t => @T1.rec (fun _ => T1) (fun a b c d e f => .mk a b c d e x) t)) x
noncomputable def b2 (x : D6) : B2 := @D6.rec (fun _ => B2)
  (.mk (fun t => t.a) (fun u t => @T2.rec (fun _ => T2) (fun a b c d e f => .mk (u a) b c d e f) t))
  (.mk (fun t => t.b) (fun u t => @T2.rec (fun _ => T2) (fun a b c d e f => .mk a (u b) c d e f) t))
  (.mk (fun t => t.c) (fun u t => @T2.rec (fun _ => T2) (fun a b c d e f => .mk a b (u c) d e f) t))
  (.mk (fun t => t.d) (fun u t => @T2.rec (fun _ => T2) (fun a b c d e f => .mk a b c (u d) e f) t))
  (.mk (fun t => t.e) (fun u t => @T2.rec (fun _ => T2) (fun a b c d e f => .mk a b c d (u e) f) t))
  (.mk (fun t => t.f) (fun u t => @T2.rec (fun _ => T2) (fun a b c d e f => .mk a b c d e (u f)) t)) x
noncomputable def b3 (x : D6) : B3 := @D6.rec (fun _ => B3)
  (.mk (fun t => t.a) (fun u t => @T3.rec (fun _ => T3) (fun a b c d e f => .mk (u a) b c d e f) t))
  (.mk (fun t => t.b) (fun u t => @T3.rec (fun _ => T3) (fun a b c d e f => .mk a (u b) c d e f) t))
  (.mk (fun t => t.c) (fun u t => @T3.rec (fun _ => T3) (fun a b c d e f => .mk a b (u c) d e f) t))
  (.mk (fun t => t.d) (fun u t => @T3.rec (fun _ => T3) (fun a b c d e f => .mk a b c (u d) e f) t))
  (.mk (fun t => t.e) (fun u t => @T3.rec (fun _ => T3) (fun a b c d e f => .mk a b c d (u e) f) t))
  (.mk (fun t => t.f) (fun u t => @T3.rec (fun _ => T3) (fun a b c d e f => .mk a b c d e (u f)) t)) x
noncomputable def dig (n : Nat) : D6 := match n with | 0 => .a | 1 => .b | 2 => .c | 3 => .d | 4 => .e | _ => .f
inductive PB where | mk (g : T3 → Option FV) (s : Option FV → T3 → T3) | no
noncomputable def cP (N t : Nat) : PB := bif Nat.ble (t + 1) N && Nat.ble t 215 then
    (match b3 (dig (t / 36)), b2 (dig (t / 6 % 6)), b1 (dig (t % 6)) with
      | .mk g3 s3, .mk g2 s2, .mk g1 s1 => .mk (fun t => g1 (g2 (g3 t))) (fun v t => s3 (s2 (s1 v)) t))
  else .no
noncomputable def z1 : T1 := .mk none none none none none none
noncomputable def z2 : T2 := .mk z1 z1 z1 z1 z1 z1
noncomputable def z3 : T3 := .mk z2 z2 z2 z2 z2 z2
inductive KT (α : Type) where
  | nil
  | node (k : Nat) (v : α) (l r : KT α)
noncomputable def KT.get {α : Type} (t : KT α) : Nat → Nat → Option α :=
  @KT.rec α (fun _ => Nat → Nat → Option α) (fun _ _ => none) (fun k v _ _ gl gr c key =>
    @Nat.rec (fun _ => Option α) (@Bool.rec (fun _ => Option α) none (some v) (Nat.beq k key))
      (fun c _ => @Nat.rec (fun _ => Option α) (gl (Nat.div c 2) key) (fun _ _ => gr (Nat.div c 2) key) (Nat.mod c 2)) c) t
noncomputable def KT.set {α : Type} (t : KT α) : Nat → Nat → α → KT α :=
  @KT.rec α (fun _ => Nat → Nat → α → KT α) (fun _ key x => .node key x .nil .nil) (fun k v l r sl sr c key x =>
    @Nat.rec (fun _ => KT α) (.node key x l r)
      (fun c _ => @Nat.rec (fun _ => KT α) (.node k v (sl (Nat.div c 2) key x) r) (fun _ _ => .node k v l (sr (Nat.div c 2) key x)) (Nat.mod c 2)) c) t
noncomputable def KT.fill {α : Type} (l : List α) : Nat → KT α → KT α :=
  @List.rec α (fun _ => Nat → KT α → KT α) (fun _ t => t) (fun x _ ih i t => ih (Nat.succ i) (t.set i i x)) l
inductive Jump where | ret | exit (id : Nat)
inductive Blk where
  | cells (elem : TypeId) (g n : Nat) (cs : KT FV)
  | map (es : List (FV × FV × Nat)) (clock : Nat)
  | loop (st : Nat) (pend : Option Jump) (N : Nat) (ts : T3) (params : List Tmp) (assign body : Code)
  | siter (s : List Nat) (pos : Nat)
  | mark
  | dead
structure FH where
  t : KT Blk
  next : Nat
  ro : Nat
noncomputable def FH.get (h : FH) (i : Nat) : Option Blk := h.t.get i i
noncomputable def FH.put (h : FH) (i : Nat) (b : Blk) : FH := ⟨h.t.set i i b, h.next, h.ro⟩
noncomputable def FH.new (h : FH) (b : Blk) : FH := ⟨h.t.set h.next h.next b, h.next + 1, h.ro⟩
inductive Ro where | no | ok (v : FV) (h : FH)
abbrev KV := FV → FH → Ro
inductive Cal where | fn (f : FuncId) | yl (l : Nat) | df (f : FuncId)
abbrev CallT := Cal → List FV → FH → KV → Ro
abbrev OpT := CallT → T3 → FH → KV → Ro
inductive OBox where | mk (f : OpT)
/-! ### constants and operands -/
mutual
noncomputable def cv : Value → Option FV
  | .bool b => some (.bool b)
  | .int k n => some (.int k n)
  | .string s => some (.str (s.data.toList.map (·.toNat)))
  | .pointer none => some .nilp
  | .slice none 0 0 => some .nils
  | .map none => some .nilm
  | .nilFunc => some .nilf
  | .agg ⟨cs⟩ => match cvs cs with | some l => (bif l.all FV.flat then some (.agg l) else none) | none => none
  | .tuple ⟨cs⟩ => (cvs cs).map .tup
  | _ => none
noncomputable def cvs : List Value → Option (List FV)
  | [] => some []
  | v :: l => match cv v with | some x => (cvs l).map (x :: ·) | none => none
end
inductive Opd where | t (g : T3 → Option FV) | c (v : FV) | no
noncomputable def cO (N : Nat) : Operand → Opd
  | .tmp t => (match cP N t with | .mk g _ => .t g | .no => .no)
  | .const v => match cv v with | some x => .c x | none => .no
  | .func f => .c (.fn f [] [])
  | .global _ => .no
noncomputable def Opd.ev (x : Opd) (ts : T3) (k : FV → Ro) : Ro := @Opd.rec (fun _ => Ro) (fun g => @Option.rec FV (fun _ => Ro) .no k (g ts)) k .no x
noncomputable def evL (l : List Opd) (ts : T3) : (List FV → Ro) → Ro :=
  @List.rec Opd (fun _ => (List FV → Ro) → Ro) (fun k => k []) (fun x _ ih k => x.ev ts fun v => ih fun r => k (v :: r)) l
/-! ### types -/
noncomputable def aggD : TypeDesc → Bool | .struct _ => true | .array _ _ => true | _ => false
noncomputable def aggT (P : Program) (t : TypeId) : Option Bool := (P.underlying t).map aggD
noncomputable def sizeT (P : Program) (t : TypeId) : Option Nat := (P.info? t).map (·.size)
noncomputable def zeroT (P : Program) (t : TypeId) : Option FV := (P.info? t).bind (fun i => i.zero.bind cv)
noncomputable def Tfield (P : Program) (t : TypeId) (f : Nat) : Option (Nat × Nat × TypeId) :=
  match P.underlying t with
  | some (.struct fs) => match fs[f]? with | some fd => (sizeT P fd.type).map fun s => (fd.offset, s, fd.type) | none => none
  | _ => none
noncomputable def Tslice (P : Program) (t : TypeId) : Option (TypeId × Nat) :=
  match P.underlying t with
  | some (.slice e) => (sizeT P e).map fun s => (e, s)
  | _ => none
noncomputable def Tarr (P : Program) (t : TypeId) : Option (Nat × TypeId × Nat) :=
  match P.underlying t with
  | some (.array n e) => (sizeT P e).map fun s => (n, e, s)
  | _ => none
/-! ### small functions -/
noncomputable def readN (cs : KT FV) : Nat → Nat → Option (List FV)
  | _, 0 => some []
  | i, n + 1 => match cs.get i i with
    | some v => (match readN cs (i + 1) n with | some r => some (v :: r) | none => none)
    | none => none
noncomputable def writeN (cs : KT FV) : Nat → List FV → KT FV
  | _, [] => cs
  | i, v :: r => writeN (cs.set i i v) (i + 1) r
noncomputable def part (agg : Bool) (n : Nat) (cs : List FV) (off : Nat) : Option FV :=
  bif agg then some (.agg ((cs.drop off).take n)) else cs[off]?
noncomputable def setN : List FV → Nat → List FV → List FV
  | cs, 0, l => l ++ cs.drop l.length
  | c :: cs, n + 1, l => c :: setN cs n l
  | [], _ + 1, l => l
noncomputable def nat? : FV → Option Nat
  | .int _ n => match n with | .ofNat n => some n | _ => none
  | _ => none
noncomputable def ieq : Int → Int → Bool
  | .ofNat a, b => match b with | .ofNat b => Nat.beq a b | _ => false
  | .negSucc a, b => match b with | .negSucc b => Nat.beq a b | _ => false
noncomputable def ilt : Int → Int → Bool
  | .ofNat a, b => match b with | .ofNat b => Nat.ble (a + 1) b | _ => false
  | .negSucc a, b => match b with | .ofNat _ => true | .negSucc b => Nat.ble (b + 1) a
noncomputable def seq : List Nat → List Nat → Bool
  | [], b => match b with | [] => true | _ => false
  | a :: x, b => match b with | [] => false | b :: y => bif Nat.beq a b then seq x y else false
noncomputable def slt : List Nat → List Nat → Bool
  | [], b => match b with | [] => false | _ => true
  | a :: x, b => match b with | [] => false | b :: y => bif Nat.beq a b then slt x y else Nat.ble (a + 1) b
noncomputable def kno : IntKind → Nat
  | .i8 => 0 | .i16 => 1 | .i32 => 2 | .i64 => 3 | .u8 => 4 | .u16 => 5 | .u32 => 6 | .u64 => 7
noncomputable def keq (a b : IntKind) : Bool := Nat.beq (kno a) (kno b)
def lim63 : Nat := 0x7fffffffffffffff
noncomputable def wrapS (k : IntKind) (n : Int) : Int := IntKind.wrap k n
noncomputable def wrap64 (n : Int) : Int := @Int.rec (fun _ => Int) (fun m => @Bool.rec (fun _ => Int) (wrapS .i64 (.ofNat m)) (.ofNat m) (Nat.ble m lim63)) (fun m => @Bool.rec (fun _ => Int) (wrapS .i64 (.negSucc m)) (.negSucc m) (Nat.ble m lim63)) n
noncomputable def wrap (k : IntKind) (n : Int) : Int := match k with
  | .i64 => wrap64 n
  | k => wrapS k n
abbrev F2 := FV → FV → Option FV
noncomputable def iArith (f : Int → Int → Int) : F2 := fun x y => match x with
  | .int k a => (match y with | .int l b => bif keq k l then some (.int k (wrap k (f a b))) else none | _ => none)
  | _ => none
noncomputable def iCmp (f : Int → Int → Bool) : Int → Int → IntKind → IntKind → Option FV := fun a b k l => bif keq k l then some (.bool (f a b)) else none
noncomputable def sCmp (f : List Nat → List Nat → Bool) (a b : List Nat) : Option FV := some (.bool (f a b))
noncomputable def cmp2 (f : Int → Int → Bool) (g : List Nat → List Nat → Bool) : F2 := fun x y => match x with
  | .int k a => (match y with | .int l b => iCmp f a b k l | _ => none)
  | .str a => (match y with | .str b => sCmp g a b | _ => none)
  | _ => none
noncomputable def add2 : F2 := fun x y => match x with
  | .int _ _ => iArith Int.add x y
  | .str a => (match y with | .str b => (bif Nat.ble (a.length + b.length) 1000000 then some (.str (a ++ b)) else none) | _ => none)
  | _ => none
noncomputable def div2 (rem : Bool) : F2 := fun x y => match x with
  | .int k a => (match y with | .int l b => bif keq k l && !ieq b 0 then some (bif rem then .int k (a.tmod b) else .int k (wrap k (a.tdiv b))) else none | _ => none)
  | _ => none
noncomputable def bits2 (f : (w : Nat) → BitVec w → BitVec w → BitVec w) : F2 := fun x y => match x with
  | .int k a => (match y with | .int l b => bif keq k l then some (.int k (wrap k (f k.bits (BitVec.ofInt k.bits a) (BitVec.ofInt k.bits b)).toNat)) else none | _ => none)
  | _ => none
noncomputable def shift2 (left : Bool) : F2 := fun x y => match x with
  | .int k a => (match y with | .int _ b => bif ilt b 0 then none else some (bif left then .int k (wrap k (a * 2 ^ min b.toNat k.bits)) else .int k (a.fdiv (2 ^ min b.toNat k.bits))) | _ => none)
  | _ => none
noncomputable def fpart (P : Program) (t : TypeId) (cs : List FV) (off : Nat) : Option FV := match aggT P t, sizeT P t with
  | some b, some n => part b n cs off
  | _, _ => none
noncomputable def eqFs (rec : TypeId → FV → FV → Option Bool) (P : Program) (xs ys : List FV) : List Field → Option Bool
  | [] => some true
  | f :: fs => if f.name = "_" then eqFs rec P xs ys fs else match fpart P f.type xs f.offset, fpart P f.type ys f.offset with
    | some a, some b => (match rec f.type a b with | some true => eqFs rec P xs ys fs | some false => some false | none => none)
    | _, _ => none
noncomputable def eqIs (rec : TypeId → FV → FV → Option Bool) (P : Program) (e : TypeId) (s : Nat) (xs ys : List FV) : List Nat → Option Bool
  | [] => some true
  | i :: is => match fpart P e xs (i * s), fpart P e ys (i * s) with
    | some a, some b => (match rec e a b with | some true => eqIs rec P e s xs ys is | some false => some false | none => none)
    | _, _ => none
noncomputable def nilEq : FV → FV → Option Bool
  | .nilp, y => (match y with | .nilp => some true | .ptr _ _ => some false | _ => none)
  | .ptr _ _, y => (match y with | .nilp => some false | _ => none)
  | .nils, y => (match y with | .nils => some true | .slice .. => some false | .emp .. => some false | _ => none)
  | .slice .., y => (match y with | .nils => some false | _ => none)
  | .emp .., y => (match y with | .nils => some false | _ => none)
  | .nilm, y => (match y with | .nilm => some true | .map _ => some false | _ => none)
  | .map _, y => (match y with | .nilm => some false | _ => none)
  | .nilf, y => (match y with | .nilf => some true | .fn .. => some false | _ => none)
  | .fn .., y => (match y with | .nilf => some false | _ => none)
  | _, _ => none
noncomputable def nilTy : TypeDesc → FV → Bool
  | .pointer _, .nilp => true | .pointer _, .ptr _ _ => true
  | .slice _, .nils => true | .slice _, .slice .. => true | .slice _, .emp .. => true
  | .map _ _, .nilm => true | .map _ _, .map _ => true
  | .func _ _ _, .nilf => true | .func _ _ _, .fn .. => true
  | _, _ => false
noncomputable def eqS (P : Program) : Nat → TypeId → FV → FV → Option Bool
  | 0, _, _, _ => none
  | d + 1, t, x, y => match P.underlying t with
    | none => none
    | some td => match x with
      | .int k a => (match td with | .int _ => (match y with | .int l b => bif keq k l then some (ieq a b) else none | _ => none) | _ => none)
      | .bool a => (match td with | .bool => (match y with | .bool b => some (a == b) | _ => none) | _ => none)
      | .str a => (match td with | .string => (match y with | .str b => some (seq a b) | _ => none) | _ => none)
      | .agg xs => (match y with
        | .agg ys => (match td with
          | .struct fs => bif P.stoodInHeld t then none else eqFs (eqS P d) P xs ys fs.toList
          | .array n e => (match sizeT P e with | some s => eqIs (eqS P d) P e s xs ys (List.range n) | none => none)
          | _ => none)
        | _ => none)
      | x => bif nilTy td x && nilTy td y then nilEq x y else none
noncomputable def eqF (P : Program) (neg : Bool) (t : TypeId) : F2 := fun x y => match x with
  | .int k a => (match y with | .int l b => bif keq k l then some (.bool (bif neg then !ieq a b else ieq a b)) else none | _ => none)
  | .str a => (match y with | .str b => some (.bool (bif neg then !seq a b else seq a b)) | _ => none)
  | .agg xs => bif P.eqGuardType P.depth t then none else match eqS P 20 t (.agg xs) y with | some b => some (.bool (bif neg then !b else b)) | none => none
  | x => match eqS P 20 t x y with | some b => some (.bool (bif neg then !b else b)) | none => none
noncomputable def ckFs (rec : TypeId → FV → Bool) (P : Program) (xs : List FV) : List Field → Bool
  | [] => true
  | f :: fs => if f.name = "_" then ckFs rec P xs fs else match fpart P f.type xs f.offset with
    | some a => rec f.type a && ckFs rec P xs fs
    | none => false
noncomputable def ckIs (rec : TypeId → FV → Bool) (P : Program) (e : TypeId) (s : Nat) (xs : List FV) : List Nat → Bool
  | [] => true
  | i :: is => match fpart P e xs (i * s) with
    | some a => rec e a && ckIs rec P e s xs is
    | none => false
noncomputable def ckS (P : Program) : Nat → TypeId → FV → Bool
  | 0, _, _ => false
  | d + 1, t, x => match P.underlying t with
    | none => false
    | some td => match td with
      | .int _ => (match x with | .int _ _ => true | _ => false)
      | .string => (match x with | .str _ => true | _ => false)
      | .bool => (match x with | .bool _ => true | _ => false)
      | .struct fs => (match x with | .agg xs => ckFs (ckS P d) P xs fs.toList | _ => false)
      | .array n e => (match x with | .agg xs => (match sizeT P e with | some s => ckIs (ckS P d) P e s xs (List.range n) | none => false) | _ => false)
      | _ => false
noncomputable def sameC : FV → FV → Bool
  | .int k a, y => (match y with | .int l b => keq k l && ieq a b | _ => false)
  | .bool a, y => (match y with | .bool b => a == b | _ => false)
  | .str a, y => (match y with | .str b => seq a b | _ => false)
  | _, _ => false
noncomputable def sameCs : List FV → List FV → Bool
  | [], y => (match y with | [] => true | _ => false)
  | a :: x, y => (match y with | [] => false | b :: y => sameC a b && sameCs x y)
noncomputable def sameK : FV → FV → Bool
  | .agg x, y => (match y with | .agg y => sameCs x y | _ => false)
  | x, y => sameC x y
noncomputable def binF : BinOp → F2
  | .add => add2
  | .sub => iArith Int.sub
  | .mul => iArith Int.mul
  | .quo => div2 false
  | .rem => div2 true
  | .eql => fun _ _ => none
  | .neq => fun _ _ => none
  | .lss => cmp2 ilt slt
  | .leq => cmp2 (fun a b => !ilt b a) (fun a b => slt a b || seq a b)
  | .gtr => cmp2 (fun a b => ilt b a) (fun a b => !(slt a b || seq a b))
  | .geq => cmp2 (fun a b => !ilt a b) (fun a b => !slt a b)
  | .and => bits2 fun _ a b => a &&& b
  | .or => bits2 fun _ a b => a ||| b
  | .xor => bits2 fun _ a b => a ^^^ b
  | .andNot => bits2 fun _ a b => a &&& ~~~b
  | .shl => shift2 true
  | .shr => shift2 false
noncomputable def unF : UnOp → FV → Option FV
  | .neg => fun x => match x with | .int k n => some (.int k (wrap k (0 - n))) | _ => none
  | .not => fun x => match x with | .bool b => some (.bool !b) | _ => none
  | .xor => fun x => match x with | .int k n => some (.int k (wrap k (BitVec.ofInt k.bits (if k.signed then -1 else k.max) ^^^ BitVec.ofInt k.bits n).toNat)) | _ => none
  | _ => fun _ => none
/-! ### case distinctions -/
noncomputable def FV.asInt (x : FV) (k : IntKind → Int → Ro) : Ro := @FV.rec (fun _ => Ro) (fun _ => PUnit) k (fun _ => .no) (fun _ => .no) (fun _ _ => .no) (fun _ _ _ _ _ => .no) .no .no (fun _ _ _ _ _ => .no) (fun _ => .no) .no (fun _ _ _ _ _ => .no) (fun _ => .no) .no (fun _ _ => .no) (fun _ _ => .no) ⟨⟩ (fun _ _ _ _ => ⟨⟩) x
noncomputable def FV.asBool (x : FV) (k : Bool → Ro) : Ro := @FV.rec (fun _ => Ro) (fun _ => PUnit) (fun _ _ => .no) k (fun _ => .no) (fun _ _ => .no) (fun _ _ _ _ _ => .no) .no .no (fun _ _ _ _ _ => .no) (fun _ => .no) .no (fun _ _ _ _ _ => .no) (fun _ => .no) .no (fun _ _ => .no) (fun _ _ => .no) ⟨⟩ (fun _ _ _ _ => ⟨⟩) x
noncomputable def FV.asPtr (x : FV) (k : Nat → Nat → Ro) : Ro := @FV.rec (fun _ => Ro) (fun _ => PUnit) (fun _ _ => .no) (fun _ => .no) (fun _ => .no) k (fun _ _ _ _ _ => .no) .no .no (fun _ _ _ _ _ => .no) (fun _ => .no) .no (fun _ _ _ _ _ => .no) (fun _ => .no) .no (fun _ _ => .no) (fun _ _ => .no) ⟨⟩ (fun _ _ _ _ => ⟨⟩) x
noncomputable def FV.asAgg (x : FV) (k : List FV → Ro) : Ro := @FV.rec (fun _ => Ro) (fun _ => PUnit) (fun _ _ => .no) (fun _ => .no) (fun _ => .no) (fun _ _ => .no) (fun _ _ _ _ _ => .no) .no .no (fun _ _ _ _ _ => .no) (fun _ => .no) .no (fun _ _ _ _ _ => .no) (fun _ => .no) .no (fun l _ => k l) (fun _ _ => .no) ⟨⟩ (fun _ _ _ _ => ⟨⟩) x
noncomputable def FV.asTup (x : FV) (k : List FV → Ro) : Ro := @FV.rec (fun _ => Ro) (fun _ => PUnit) (fun _ _ => .no) (fun _ => .no) (fun _ => .no) (fun _ _ => .no) (fun _ _ _ _ _ => .no) .no .no (fun _ _ _ _ _ => .no) (fun _ => .no) .no (fun _ _ _ _ _ => .no) (fun _ => .no) .no (fun _ _ => .no) (fun l _ => k l) ⟨⟩ (fun _ _ _ _ => ⟨⟩) x
noncomputable def FV.asSlice (x : FV) (k : Nat → Nat → Nat → Bool → Nat → Ro) : Ro := @FV.rec (fun _ => Ro) (fun _ => PUnit) (fun _ _ => .no) (fun _ => .no) (fun _ => .no) (fun _ _ => .no) k .no .no (fun _ _ _ _ _ => .no) (fun _ => .no) .no (fun _ _ _ _ _ => .no) (fun _ => .no) .no (fun _ _ => .no) (fun _ _ => .no) ⟨⟩ (fun _ _ _ _ => ⟨⟩) x
noncomputable def asNat (x : FV) (k : Nat → Ro) : Ro := x.asInt fun _ n => @Int.rec (fun _ => Ro) k (fun _ => .no) n
noncomputable def iff' (b : Bool) (r : Ro) : Ro := @Bool.rec (fun _ => Ro) .no r b
noncomputable def opt {α : Type} (x : Option α) (k : α → Ro) : Ro := @Option.rec α (fun _ => Ro) .no k x
noncomputable def FH.cells (h : FH) (i : Nat) (k : TypeId → Nat → Nat → KT FV → Ro) : Ro :=
  @Option.rec Blk (fun _ => Ro) .no (fun b => @Blk.rec (fun _ => Ro) k (fun _ _ => .no) (fun _ _ _ _ _ _ _ => .no) (fun _ _ => .no) .no .no b) (h.get i)
noncomputable def FH.map (h : FH) (i : Nat) (k : List (FV × FV × Nat) → Nat → Ro) : Ro := match h.get i with | some (.map es c) => k es c | _ => .no
mutual
noncomputable def beqV : FV → FV → Bool
  | .int k a, y => (match y with | .int l b => keq k l && ieq a b | _ => false)
  | .bool a, y => (match y with | .bool b => a == b | _ => false)
  | .str a, y => (match y with | .str b => seq a b | _ => false)
  | .ptr i o, y => (match y with | .ptr j p => Nat.beq i j && Nat.beq o p | _ => false)
  | .slice i o l c d, y => (match y with | .slice i' o' l' c' d' => Nat.beq i i' && (Nat.beq o o' && (Nat.beq l l' && (c == c' && Nat.beq d d'))) | _ => false)
  | .nilp, y => (match y with | .nilp => true | _ => false)
  | .nils, y => (match y with | .nils => true | _ => false)
  | .emp i o c q s, y => (match y with | .emp i' o' c' q' s' => Nat.beq i i' && (Nat.beq o o' && (Nat.beq c c' && (Nat.beq q q' && Nat.beq s s'))) | _ => false)
  | .map i, y => (match y with | .map j => Nat.beq i j | _ => false)
  | .nilm, y => (match y with | .nilm => true | _ => false)
  | .fn f a b, y => (match y with | .fn g c d => Nat.beq f g && (beqVs a c && beqVs b d) | _ => false)
  | .yl i, y => (match y with | .yl j => Nat.beq i j | _ => false)
  | .nilf, y => (match y with | .nilf => true | _ => false)
  | .agg a, y => (match y with | .agg b => beqVs a b | _ => false)
  | .tup a, y => (match y with | .tup b => beqVs a b | _ => false)
noncomputable def beqVs : List FV → List FV → Bool
  | [], y => (match y with | [] => true | _ => false)
  | a :: x, y => (match y with | [] => false | b :: y => beqV a b && beqVs x y)
end
/-! ### the same functions by recursors alone, for a checker -/
noncomputable def cI {α : Type} (x : FV) (d : α) (k : IntKind → Int → α) : α := @FV.rec (fun _ => α) (fun _ => PUnit) k (fun _ => d) (fun _ => d) (fun _ _ => d) (fun _ _ _ _ _ => d) d d (fun _ _ _ _ _ => d) (fun _ => d) d (fun _ _ _ _ _ => d) (fun _ => d) d (fun _ _ => d) (fun _ _ => d) ⟨⟩ (fun _ _ _ _ => ⟨⟩) x
noncomputable def cS {α : Type} (x : FV) (d : α) (k : List Nat → α) : α := @FV.rec (fun _ => α) (fun _ => PUnit) (fun _ _ => d) (fun _ => d) k (fun _ _ => d) (fun _ _ _ _ _ => d) d d (fun _ _ _ _ _ => d) (fun _ => d) d (fun _ _ _ _ _ => d) (fun _ => d) d (fun _ _ => d) (fun _ _ => d) ⟨⟩ (fun _ _ _ _ => ⟨⟩) x
noncomputable def cIS {α : Type} (x : FV) (d : α) (k : IntKind → Int → α) (s : List Nat → α) : α := @FV.rec (fun _ => α) (fun _ => PUnit) k (fun _ => d) s (fun _ _ => d) (fun _ _ _ _ _ => d) d d (fun _ _ _ _ _ => d) (fun _ => d) d (fun _ _ _ _ _ => d) (fun _ => d) d (fun _ _ => d) (fun _ _ => d) ⟨⟩ (fun _ _ _ _ => ⟨⟩) x
noncomputable def kI8 : IntKind → Bool := @IntKind.rec (fun _ => Bool) true false false false false false false false
noncomputable def kI16 : IntKind → Bool := @IntKind.rec (fun _ => Bool) false true false false false false false false
noncomputable def kI32 : IntKind → Bool := @IntKind.rec (fun _ => Bool) false false true false false false false false
noncomputable def kI64 : IntKind → Bool := @IntKind.rec (fun _ => Bool) false false false true false false false false
noncomputable def kU8 : IntKind → Bool := @IntKind.rec (fun _ => Bool) false false false false true false false false
noncomputable def kU16 : IntKind → Bool := @IntKind.rec (fun _ => Bool) false false false false false true false false
noncomputable def kU32 : IntKind → Bool := @IntKind.rec (fun _ => Bool) false false false false false false true false
noncomputable def kU64 : IntKind → Bool := @IntKind.rec (fun _ => Bool) false false false false false false false true
noncomputable def keqK (a b : IntKind) : Bool := @IntKind.rec (fun _ => IntKind → Bool) kI8 kI16 kI32 kI64 kU8 kU16 kU32 kU64 a b
theorem keqK_eq (a b : IntKind) : keqK a b = keq a b := by cases a <;> cases b <;> rfl
noncomputable def ieqK (a b : Int) : Bool := @Int.rec (fun _ => Bool) (fun m => @Int.rec (fun _ => Bool) (fun n => Nat.beq m n) (fun _ => false) b) (fun m => @Int.rec (fun _ => Bool) (fun _ => false) (fun n => Nat.beq m n) b) a
theorem ieqK_eq (a b : Int) : ieqK a b = ieq a b := by cases a <;> cases b <;> rfl
noncomputable def iltK (a b : Int) : Bool := @Int.rec (fun _ => Bool) (fun m => @Int.rec (fun _ => Bool) (fun n => Nat.ble (Nat.succ m) n) (fun _ => false) b) (fun m => @Int.rec (fun _ => Bool) (fun _ => true) (fun n => Nat.ble (Nat.succ n) m) b) a
theorem iltK_eq (a b : Int) : iltK a b = ilt a b := by cases a <;> cases b <;> rfl
noncomputable def seqK (a : List Nat) : List Nat → Bool := @List.rec Nat (fun _ => List Nat → Bool) (fun b => @List.rec Nat (fun _ => Bool) true (fun _ _ _ => false) b) (fun x _ ih b => @List.rec Nat (fun _ => Bool) false (fun y r _ => @Bool.rec (fun _ => Bool) false (ih r) (Nat.beq x y)) b) a
theorem seqK_eq : ∀ (a b : List Nat), seqK a b = seq a b
  | [], b => by cases b <;> rfl
  | x :: a, b => by
    cases b with
    | nil => rfl
    | cons y b =>
      show (@Bool.rec (fun _ => Bool) false (seqK a b) (Nat.beq x y)) = (bif Nat.beq x y then seq a b else false)
      rw [seqK_eq a b]; cases Nat.beq x y <;> rfl
noncomputable def subNN (m n : Nat) : Int := @Nat.rec (fun _ => Int) (.ofNat (Nat.sub m n)) (fun d _ => .negSucc d) (Nat.sub n m)
noncomputable def iaddK (a b : Int) : Int := @Int.rec (fun _ => Int) (fun m => @Int.rec (fun _ => Int) (fun n => .ofNat (Nat.add m n)) (fun n => subNN m (Nat.succ n)) b) (fun m => @Int.rec (fun _ => Int) (fun n => subNN n (Nat.succ m)) (fun n => .negSucc (Nat.succ (Nat.add m n))) b) a
theorem subNN_eq (m n : Nat) : subNN m n = Int.subNatNat m n := by
  unfold subNN Int.subNatNat
  show (@Nat.rec (fun _ => Int) (.ofNat (m - n)) (fun d _ => .negSucc d) (n - m)) = _
  cases n - m <;> rfl
theorem iaddK_eq (a b : Int) : iaddK a b = Int.add a b := by
  cases a <;> cases b
  · rfl
  · exact subNN_eq _ _
  · exact subNN_eq _ _
  · rfl
noncomputable def isubK (a b : Int) : Int := @Int.rec (fun _ => Int) (fun m => @Int.rec (fun _ => Int) (fun n => subNN m n) (fun n => .ofNat (Nat.add m (Nat.succ n))) b) (fun m => @Int.rec (fun _ => Int) (fun n => .negSucc (Nat.add m n)) (fun n => subNN n m) b) a
theorem isubK_eq (a b : Int) : isubK a b = Int.sub a b := by
  have e : Int.sub a b = a - b := rfl
  rw [e]
  cases a with
  | ofNat m => cases b with
    | ofNat n =>
      show subNN m n = _
      rw [subNN_eq, Int.subNatNat_eq_coe]; rfl
    | negSucc n =>
      show Int.ofNat (m + (n + 1)) = _
      simp [Int.negSucc_eq, Int.sub_eq_add_neg]
  | negSucc m => cases b with
    | ofNat n =>
      show Int.negSucc (m + n) = _
      simp [Int.negSucc_eq]; omega
    | negSucc n =>
      show subNN n m = _
      rw [subNN_eq, Int.subNatNat_eq_coe]; simp [Int.negSucc_eq]; omega
noncomputable def wrapK (k : IntKind) (n : Int) : Int := @IntKind.rec (fun _ => Int) (wrapS .i8 n) (wrapS .i16 n) (wrapS .i32 n) (wrap64 n) (wrapS .u8 n) (wrapS .u16 n) (wrapS .u32 n) (wrapS .u64 n) k
theorem wrapK_eq (k : IntKind) (n : Int) : wrapK k n = wrap k n := by cases k <;> rfl
noncomputable def gN (n : Nat) (k : Nat → Ro) : Ro := @Nat.rec (fun _ => Ro) (k Nat.zero) (fun m _ => k (Nat.succ m)) n
noncomputable def gI (n : Int) (k : Int → Ro) : Ro := @Int.rec (fun _ => Ro) (fun m => gN m fun m => k (.ofNat m)) (fun m => gN m fun m => k (.negSucc m)) n
theorem gN_eq (n : Nat) (k : Nat → Ro) : gN n k = k n := by cases n <;> rfl
theorem gI_eq (n : Int) (k : Int → Ro) : gI n k = k n := by
  cases n with
  | ofNat m => exact gN_eq m (fun m => k (.ofNat m))
  | negSucc m => exact gN_eq m (fun m => k (.negSucc m))
noncomputable def nthK (l : List FV) : Nat → Option FV := @List.rec FV (fun _ => Nat → Option FV) (fun _ => none) (fun x _ ih n => @Nat.rec (fun _ => Option FV) (some x) (fun m _ => ih m) n) l
theorem nthK_eq : ∀ (l : List FV) (n : Nat), nthK l n = l[n]?
  | [], n => by simp [nthK]
  | x :: l, 0 => rfl
  | x :: l, n + 1 => by
    show nthK l n = _
    rw [nthK_eq l n]; simp
noncomputable def readK (cs : KT FV) (n : Nat) : Nat → Option (List FV) := @Nat.rec (fun _ => Nat → Option (List FV)) (fun _ => some []) (fun _ ih i => @Option.rec FV (fun _ => Option (List FV)) none (fun v => @Option.rec (List FV) (fun _ => Option (List FV)) none (fun r => some (v :: r)) (ih (Nat.succ i))) (cs.get i i)) n
theorem readK_eq (cs : KT FV) : ∀ (n i : Nat), readK cs n i = readN cs i n
  | 0, i => rfl
  | n + 1, i => by
    show (@Option.rec FV (fun _ => Option (List FV)) none (fun v => @Option.rec (List FV) (fun _ => Option (List FV)) none (fun r => some (v :: r)) (readK cs n (Nat.succ i))) (cs.get i i)) = _
    rw [readK_eq cs n]
    simp only [readN]
    cases cs.get i i with
    | none => rfl
    | some v => cases readN cs (i + 1) n <;> rfl
noncomputable def writeK (l : List FV) : KT FV → Nat → KT FV := @List.rec FV (fun _ => KT FV → Nat → KT FV) (fun cs _ => cs) (fun v _ ih cs i => ih (cs.set i i v) (Nat.succ i)) l
theorem writeK_eq : ∀ (l : List FV) (cs : KT FV) (i : Nat), writeK l cs i = writeN cs i l
  | [], cs, i => rfl
  | v :: l, cs, i => writeK_eq l _ _
noncomputable def lenK (l : List FV) : Nat := @List.rec FV (fun _ => Nat) 0 (fun _ _ ih => Nat.succ ih) l
theorem lenK_eq : ∀ (l : List FV), lenK l = l.length
  | [] => rfl
  | _ :: l => congrArg Nat.succ (lenK_eq l)
noncomputable def and' (a b : Bool) : Bool := @Bool.rec (fun _ => Bool) false b a
theorem and'_eq (a b : Bool) : and' a b = (a && b) := by cases a <;> rfl
noncomputable def cAT {α : Type} (x : FV) (d : α) (ka kt : List FV → α) : α := @FV.rec (fun _ => α) (fun _ => PUnit) (fun _ _ => d) (fun _ => d) (fun _ => d) (fun _ _ => d) (fun _ _ _ _ _ => d) d d (fun _ _ _ _ _ => d) (fun _ => d) d (fun _ _ _ _ _ => d) (fun _ => d) d (fun l _ => ka l) (fun l _ => kt l) ⟨⟩ (fun _ _ _ _ => ⟨⟩) x
noncomputable def beqK (x y : FV) : Bool := @FV.rec (fun _ => Bool) (fun _ => PUnit)
  (fun k a => cI y false fun l b => and' (keqK k l) (ieqK a b)) (fun _ => beqV x y) (fun a => cS y false fun b => seqK a b)
  (fun i o => @FV.rec (fun _ => Bool) (fun _ => PUnit) (fun _ _ => false) (fun _ => false) (fun _ => false) (fun j p => and' (Nat.beq i j) (Nat.beq o p)) (fun _ _ _ _ _ => false) false false (fun _ _ _ _ _ => false) (fun _ => false) false (fun _ _ _ _ _ => false) (fun _ => false) false (fun _ _ => false) (fun _ _ => false) ⟨⟩ (fun _ _ _ _ => ⟨⟩) y)
  (fun _ _ _ _ _ => beqV x y) (beqV x y) (beqV x y) (fun _ _ _ _ _ => beqV x y) (fun _ => beqV x y) (beqV x y) (fun _ _ _ _ _ => beqV x y) (fun _ => beqV x y) (beqV x y) (fun _ _ => beqV x y) (fun _ _ => beqV x y) ⟨⟩ (fun _ _ _ _ => ⟨⟩) x
abbrev G2 := FV → FV → FH → (FV → FH → Ro) → Ro
noncomputable def arK (f : Int → Int → Int) : G2 := fun x y h k => x.asInt fun j a => y.asInt fun l b => iff' (keqK j l) (gI (wrapK j (f a b)) fun n => k (.int j n) h)
noncomputable def cmpK (f : Int → Int → Bool) (g : List Nat → List Nat → Bool) : G2 := fun x y h k =>
  cIS x .no (fun j a => y.asInt fun l b => iff' (keqK j l) (k (.bool (f a b)) h)) (fun a => cS y .no fun b => k (.bool (g a b)) h)
theorem beqK_eq (x y : FV) : beqK x y = beqV x y := by
  cases x
  case int k a =>
    cases y <;> first | rfl | skip
    rename_i l b
    show and' (keqK k l) (ieqK a b) = _
    rw [and'_eq, keqK_eq, ieqK_eq]; rfl
  case str a =>
    cases y <;> first | rfl | skip
    rename_i b
    show seqK a b = _
    rw [seqK_eq]; rfl
  case ptr i o =>
    cases y <;> first | rfl | skip
    rename_i j p
    show and' (Nat.beq i j) (Nat.beq o p) = _
    rw [and'_eq]; rfl
  all_goals rfl
/-! ### operations -/
noncomputable def opNo : OpT := fun _ _ _ _ => .no
abbrev H1 := FV → FH → KV → Ro
abbrev H2 := FV → FV → FH → KV → Ro
abbrev H3 := FV → FV → FV → FH → KV → Ro
abbrev HL := List FV → FH → KV → Ro
noncomputable def op1 (x : Opd) (f : H1) : OpT := fun _ ts h k => x.ev ts fun v => f v h k
noncomputable def op2 (x y : Opd) (f : H2) : OpT := fun _ ts h k => x.ev ts fun v => y.ev ts fun u => f v u h k
noncomputable def op3 (x y z : Opd) (f : H3) : OpT := fun _ ts h k => x.ev ts fun v => y.ev ts fun u => z.ev ts fun s => f v u s h k
noncomputable def opL (x : List Opd) (f : HL) : OpT := fun _ ts h k => evL x ts fun v => f v h k
noncomputable def p1 (f : FV → Option FV) : H1 := fun x h k => opt (f x) fun v => k v h
noncomputable def p2 (f : FV → FV → Option FV) : H2 := fun x y h k => opt (f x y) fun v => k v h
noncomputable def fMove : H1 := fun v h k => k v h
noncomputable def opPick (c a b : Opd) : OpT := fun _ ts h k => c.ev ts fun v => v.asBool fun x => @Bool.rec (fun _ => Ro) (b.ev ts fun v => k v h) (a.ev ts fun v => k v h) x
noncomputable def opAlloc (t : TypeId) (n : Nat) (z : List FV) : OpT := fun _ _ h k => k (.ptr h.next 0) (h.new (.cells t 0 n (KT.fill z 0 .nil)))
noncomputable def fBox (t : TypeId) : H1 := fun x h k => iff' x.cell (k (.ptr h.next 0) (h.new (.cells t 0 x.cells.length (KT.fill x.cells 0 .nil))))
noncomputable def fLoad1 : H1 := fun a h k => a.asPtr fun i off => h.cells i fun _ _ m cs => iff' (Nat.ble (off + 1) m) (opt (cs.get off off) fun v => k v h)
noncomputable def fLoadN (n : Nat) : H1 := fun a h k => a.asPtr fun i off => h.cells i fun _ _ m cs => iff' (Nat.ble (off + n) m) (opt (readN cs off n) fun l => k (.agg l) h)
noncomputable def fLoad (agg : Bool) (n : Nat) : H1 := match agg with | true => fLoadN n | false => fLoad1
noncomputable def fStore (n : Nat) : H2 := fun a x h k => a.asPtr fun i off => h.cells i fun t g m cs =>
  iff' (Nat.beq x.cells.length n) (iff' (Nat.ble (off + n) m && (x.cell && (Nat.ble g 1 && Nat.ble h.ro i))) (k (.tup []) (h.put i (.cells t g m (writeN cs off x.cells)))))
noncomputable def iArithK (f : Int → Int → Int) : H2 := fun x y h k => x.asInt fun j a => y.asInt fun l b => iff' (keq j l) (k (.int j (wrap j (f a b))) h)
noncomputable def eqK (P : Program) (neg : Bool) (t : TypeId) : H2 := fun x y h k => opt (eqF P neg t x y) fun v => k v h
noncomputable def fillP : List (Nat × Nat) → List FV → List FV → Option (List FV)
  | [], vs, cs => match vs with | [] => some cs | _ => none
  | (off, s) :: ps, vs, cs => match vs with
    | [] => none
    | v :: vs => bif Nat.beq v.cells.length s && (Nat.ble (off + s) cs.length && v.cell) then fillP ps vs (setN cs off v.cells) else none
noncomputable def fBuild (pl : List (Nat × Nat)) (z : List FV) : HL := fun vs h k => opt (fillP pl vs z) fun cs => k (.agg cs) h
noncomputable def rep (z : List FV) : Nat → List FV
  | 0 => []
  | n + 1 => z ++ rep z n
noncomputable def fBuildSlice (e : TypeId) (m len : Nat) (pl : List (Nat × Nat)) (z : List FV) : HL := fun vs h k =>
  opt (fillP pl vs z) fun cs => k (.slice h.next 0 len true len) (h.new (.cells e 0 m (KT.fill cs 0 .nil)))
noncomputable def fMakeSlice (e : TypeId) (s : Nat) (z : List FV) : H2 := fun l c h k => asNat l fun l => asNat c fun c =>
  iff' (Nat.ble l c) (iff' (Nat.ble c 100000) (k (.slice h.next 0 l true c) (h.new (.cells e 0 (c * s) (KT.fill (rep z c) 0 .nil)))))
noncomputable def known (h : FH) (i : Nat) (e : TypeId) : Nat := match h.get i with | some (.cells t g m _) => (bif Nat.beq g 1 && Nat.beq t e then m else 0) | _ => 0
noncomputable def capLE (n m : Nat) (cx : Bool) (cap off s : Nat) : Bool := bif cx then Nat.ble n cap else bif Nat.beq n 0 then true else Nat.beq off (cap * s) && Nat.ble (off + n * s) m
noncomputable def bnd (b : Bool) (d : Nat) (vs : List FV) : Option (Nat × List FV) := match b with
  | false => some (d, vs)
  | true => match vs with | v :: r => (match nat? v with | some n => some (n, r) | none => none) | [] => none
noncomputable def lenS : FV → Nat
  | .slice _ _ len _ _ => len
  | _ => 0
noncomputable def sliceV (m : Nat) (x : FV) (s l u : Nat) (nx : Nat) : Option (FV × Bool) := match x with
  | .slice i off len cx cap => bif Nat.ble l u && capLE u m cx cap off s then
      (bif cx then (bif Nat.beq cap l then some (.slice i off (u - l) true 0, false) else some (.slice i (off + l * s) (u - l) true (cap - l), false))
       else bif Nat.ble (l + 1) u || Nat.beq l 0 then some (.slice i (off + l * s) (u - l) false (cap + l), false)
       else bif Nat.beq u l then some (.emp i off cap l s, false) else none) else none
  | .nils => bif Nat.beq l 0 && Nat.beq u 0 then some (.nils, false) else none
  | .emp i o c q s => bif Nat.beq l 0 && Nat.beq u 0 then some (.emp i o c q s, false) else none
  | _ => none
noncomputable def knownOf (h : FH) (e : TypeId) : FV → Nat | .slice i _ _ _ _ => known h i e | _ => 0
noncomputable def fSliceS (e : TypeId) (lo hi : Bool) (s : Nat) : HL := fun vs h k => match vs with
  | x :: r => opt (bnd lo 0 r) fun q => opt (bnd hi (lenS x) q.2) fun p => opt (sliceV (knownOf h e x) x s q.1 p.1 h.next) fun y => match y with
    | (v, false) => k v h
    | (v, true) => k v (h.new .dead)
  | [] => .no
noncomputable def fSliceQ (e : TypeId) (lo hi : Bool) (s : Nat) : HL := fun vs h k => match vs with
  | x :: r => opt (bnd lo 0 r) fun q => opt (bnd hi (lenS x) q.2) fun p => opt (sliceV (knownOf h e x) x s q.1 p.1 h.next) fun y => match y with
    | (v, false) => k v h
    | (v, true) => .no
  | [] => .no
noncomputable def fSliceStr (lo hi : Bool) : HL := fun vs h k => match vs with
  | .str cs :: r => opt (bnd lo 0 r) fun q => opt (bnd hi cs.length q.2) fun p => iff' (Nat.ble q.1 p.1 && Nat.ble p.1 cs.length) (k (.str ((cs.take p.1).drop q.1)) h)
  | _ => .no
noncomputable def fSlice3 (e : TypeId) (lo : Bool) (s : Nat) : HL := fun vs h k => match vs with
  | .slice i off len cx cap :: r => opt (bnd lo 0 r) fun q => opt (bnd true 0 q.2) fun p => opt (bnd true 0 p.2) fun o =>
      iff' (Nat.ble q.1 p.1 && Nat.ble p.1 o.1 && capLE o.1 (known h i e) cx cap off s)
        (bif Nat.beq o.1 q.1 then k (.slice i off (p.1 - q.1) true 0) h else k (.slice i (off + q.1 * s) (p.1 - q.1) true (o.1 - q.1)) h)
  | _ => .no
noncomputable def fSliceA (n s : Nat) (lo hi : Bool) : HL := fun vs h k => match vs with
  | .ptr i off :: r => opt (bnd lo 0 r) fun q => opt (bnd hi n q.2) fun p =>
      iff' (Nat.ble q.1 p.1 && Nat.ble p.1 n && Nat.ble (q.1 + 1) n) (k (.slice i (off + q.1 * s) (p.1 - q.1) true (n - q.1)) h)
  | _ => .no
noncomputable def fFieldAddr (o : Nat) : H1 := fun x h k => x.asPtr fun i off => k (.ptr i (off + o)) h
noncomputable def fField (agg : Bool) (n o : Nat) : H1 := fun x h k => x.asAgg fun cs => opt (part agg n cs o) fun v => k v h
noncomputable def fIndexAddr (s : Nat) : H2 := fun x i h k => asNat i fun j => x.asSlice fun b off len _ _ => iff' (Nat.ble (j + 1) len) (k (.ptr b (off + j * s)) h)
noncomputable def fIndexAddrA (n s : Nat) : H2 := fun x i h k => asNat i fun j => x.asPtr fun b off => iff' (Nat.ble (j + 1) n) (k (.ptr b (off + j * s)) h)
noncomputable def fIndexS : H2 := fun x i h k => asNat i fun j => match x with | .str s => opt (s[j]?) fun b => iff' (Nat.ble b 255) (k (.int .u8 (.ofNat b)) h) | _ => .no
noncomputable def fIndexA (agg : Bool) (n s : Nat) : H2 := fun x i h k => asNat i fun j => x.asAgg fun cs => iff' (Nat.ble (j + 1) n) (opt (part agg s cs (j * s)) fun v => k v h)
noncomputable def findK (eq : FV → FV → Option Bool) (k : FV) : List (FV × FV × Nat) → Option (Option (FV × Nat))
  | [] => some none
  | (a, v, b) :: r => match eq k a with | some true => some (some (v, b)) | some false => findK eq k r | none => none
noncomputable def ck0 (P : Program) (kt : TypeId) (key : FV) : Bool := ckS P 20 kt key
noncomputable def putK (eq : FV → FV → Option Bool) (k : FV) (x : Option FV) (z : FV) (clock : Nat) : List (FV × FV × Nat) → Option (List (FV × FV × Nat) × FV × Nat × Nat)
  | [] => some ([(k, x.getD z, clock)], z, clock, clock + 1)
  | (a, v, b) :: r => match eq k a with
    | some true => bif sameK a k then some ((k, x.getD v, b) :: r, v, b, clock) else none
    | some false => (match putK eq k x z clock r with | some (l, w, c, d) => some ((a, v, b) :: l, w, c, d) | none => none)
    | none => none
noncomputable def fLookup (P : Program) (kt : TypeId) (z : FV) (ok2 : Bool) : H2 := fun m key h k => iff' (ck0 P kt key) <| match m with
    | .nilm => k (bif ok2 then .tup [z, .bool false] else z) h
    | .map i => h.map i fun es _ => opt (findK (eqS P 20 kt) key es) fun r => match r with
      | some (v, _) => k (bif ok2 then .tup [v, .bool true] else v) h
      | none => k (bif ok2 then .tup [z, .bool false] else z) h
    | _ => .no
noncomputable def fMapUpdate (P : Program) (kt : TypeId) : H3 := fun m key x h k => iff' (ck0 P kt key) <| match m with
  | .map i => h.map i fun es c => iff' (Nat.ble h.ro i) <| opt (putK (eqS P 20 kt) key (some x) x c es) fun q => k (.tup []) (h.put i (.map q.1 q.2.2.2))
  | _ => .no
noncomputable def fMapEntry (P : Program) (kt : TypeId) (z : FV) : H2 := fun m key h k => iff' (ck0 P kt key) <| match m with
  | .map i => h.map i fun es c => iff' (Nat.ble h.ro i) <| opt (putK (eqS P 20 kt) key none z c es) fun q => k (.tup [q.2.1, .int .i64 (.ofNat q.2.2.1)]) (h.put i (.map q.1 q.2.2.2))
  | _ => .no
noncomputable def setB (b : Nat) (x : FV) : List (FV × FV × Nat) → Option (List (FV × FV × Nat))
  | [] => none
  | (k, v, c) :: r => bif Nat.beq c b then some ((k, x, c) :: r) else match setB b x r with | some l => some ((k, v, c) :: l) | none => none
noncomputable def fEntryStore : H3 := fun m s x h k => match m with
  | .map i => h.map i fun es c => iff' (Nat.ble h.ro i) <| asNat s fun b => opt (setB b x es) fun es' => k (.tup []) (h.put i (.map es' c))
  | _ => .no
noncomputable def fConvS : H1 := fun x h k => match x with | .str l => k (.str l) h | _ => .no
noncomputable def fConvI (j : IntKind) : H1 := fun x h k => x.asInt fun _ n => k (.int j (wrap j n)) h
noncomputable def bytesF : List Nat → List FV
  | [] => []
  | b :: r => .int .u8 (.ofNat b) :: bytesF r
noncomputable def bytesB : List FV → Option (List Nat)
  | [] => some []
  | v :: r => match v with
    | .int .u8 n => (match n with | .ofNat b => (bif Nat.ble b 255 then (match bytesB r with | some l => some (b :: l) | none => none) else none) | _ => none)
    | _ => none
noncomputable def fConvSB (e : TypeId) : H1 := fun x h k => match x with
  | .str l => k (.slice h.next 0 l.length false 0) (h.new (.cells e 2 l.length (KT.fill (bytesF l) 0 .nil)))
  | _ => .no
noncomputable def fConvBS : H1 := fun x h k => match x with
  | .nils => k (.str []) h
  | .slice i off len _ _ => h.cells i fun _ _ m cs => iff' (Nat.ble (off + len) m) (opt (readN cs off len) fun l => opt (bytesB l) fun s => k (.str s) h)
  | _ => .no
noncomputable def lenOf : FV → Option Nat
  | .str s => some s.length
  | .slice _ _ len _ _ => some len
  | .nils => some 0
  | .emp .. => some 0
  | _ => none
noncomputable def fLenS : H1 := fun x h k => match x with | .str s => k (.int .i64 (.ofNat s.length)) h | _ => .no
noncomputable def fLenM : H1 := fun x h k => match x with
  | .nilm => k (.int .i64 (.ofNat 0)) h
  | .map i => h.map i fun es _ => k (.int .i64 (.ofNat es.length)) h
  | _ => .no
noncomputable def fLenA (n : Nat) : H1 := fun _ h k => k (.int .i64 (.ofNat n)) h
noncomputable def fCap : FV → Option FV := fun x => match x with
  | .slice _ _ _ cx c => bif cx then some (.int .i64 (.ofNat c)) else none
  | .nils => some (.int .i64 (.ofNat 0))
  | _ => none
noncomputable def cellsOf (h : FH) (s : Nat) : FV → Option (List FV)
  | .nils => some []
  | .emp .. => some []
  | .str l => bif Nat.beq s 1 then some (bytesF l) else none
  | .slice i off len _ _ => match h.get i with | some (.cells _ _ m cs) => bif Nat.ble (off + len * s) m then readN cs off (len * s) else none | _ => none
  | _ => none
noncomputable def fAppend (e : TypeId) (s : Nat) : H2 := fun x y h k => opt (lenOf y) fun n => opt (cellsOf h s y) fun new => iff' (Nat.ble n 10000) <| match x with
  | .emp i o c q s => iff' (Nat.beq n 0) (k (.emp i o c q s) h)
  | .nils => bif Nat.beq n 0 then k .nils h else k (.slice h.next 0 n false 0) (h.new (.cells e 1 (n * s) (KT.fill new 0 .nil)))
  | .slice i off len cx cap => h.cells i fun t g m cs => iff' (Nat.beq t e && (Nat.ble (off + len * s) m && Nat.ble len 10000)) <|
      bif capLE (len + n) (bif Nat.beq g 1 then m else 0) cx cap off s && Nat.ble (off + (len + n) * s) m then
        iff' (Nat.ble g 1 && Nat.ble h.ro i) (k (.slice i off (len + n) cx cap) (h.put i (.cells t g m (writeN cs (off + len * s) new))))
      else opt (readN cs off (len * s)) fun old =>
        bif cx then iff' (Nat.ble (cap + 1) (len + n)) (k (.slice h.next 0 (len + n) false 0) (h.new (.cells e 1 ((len + n) * s) (KT.fill (old ++ new) 0 .nil))))
        else iff' (Nat.beq g 1 && (Nat.beq off (cap * s) && Nat.ble h.ro i)) (k (.slice h.next 0 (len + n) false 0) ((h.put i .dead).new (.cells e 1 ((len + n) * s) (KT.fill (old ++ new) 0 .nil))))
  | _ => .no
noncomputable def fCopy (s : Nat) : H2 := fun x y h k => opt (lenOf y) fun n => opt (cellsOf h s y) fun l => match x with
  | .nils => k (.int .i64 (.ofNat 0)) h
  | .emp .. => k (.int .i64 (.ofNat 0)) h
  | .slice i off len _ _ => h.cells i fun e g m cs => iff' (Nat.ble (off + len * s) m && (Nat.ble g 1 && Nat.ble h.ro i)) (k (.int .i64 (.ofNat (min n len))) (h.put i (.cells e g m (writeN cs off (l.take (min n len * s))))))
  | _ => .no
noncomputable def minmax (mx : Bool) : FV → List FV → Option FV
  | x, [] => some x
  | x, y :: r => match x with
    | .int k a => (match y with | .int _ b => minmax mx (.int k (bif mx then (bif ilt a b then b else a) else (bif ilt b a then b else a))) r | _ => none)
    | _ => none
noncomputable def fMinmax (mx : Bool) : HL := fun vs h k => match vs with | x :: r => opt (minmax mx x r) fun v => k v h | [] => .no
noncomputable def fMakeFunc (f : FuncId) (n : Nat) : HL := fun vs h k => k (.fn f (vs.take n) (vs.drop n)) h
noncomputable def opMakeMap : OpT := fun _ _ h k => k (.map h.next) (h.new (.map [] 0))
noncomputable def fNilCheck : H1 := fun x h k => match x with | .ptr i o => k (.ptr i o) h | .fn f a b => k (.fn f a b) h | _ => .no
noncomputable def appK (l r : List FV) : List FV := @List.rec FV (fun _ => List FV) r (fun x _ ih => x :: ih) l
theorem appK_eq : ∀ (l r : List FV), appK l r = l ++ r
  | [], r => rfl
  | x :: l, r => congrArg (x :: ·) (appK_eq l r)
noncomputable def callV (call : CallT) (v : FV) (az : List FV) (h : FH) (k : KV) : Ro := @FV.rec (fun _ => Ro) (fun _ => PUnit) (fun _ _ => .no) (fun _ => .no) (fun _ => .no) (fun _ _ => .no) (fun _ _ _ _ _ => .no) .no .no (fun _ _ _ _ _ => .no) (fun _ => .no) .no
  (fun g first cap _ _ => call (.fn g) (appK first (appK az cap)) h k) (fun l => call (.yl l) az h k) .no (fun _ _ => .no) (fun _ _ => .no) ⟨⟩ (fun _ _ _ _ => ⟨⟩) v
noncomputable def opCall (f : Opd) (args : List Opd) : OpT := fun call ts h k => f.ev ts fun v => evL args ts fun az => callV call v az h k
noncomputable def fRange : H1 := fun x h k => match x with
  | .str s => k (.ptr h.next 0) (h.new (.siter s 0))
  | _ => .no
noncomputable def fNext : H1 := fun x h k => x.asPtr fun i o => iff' (Nat.beq o 0) (match h.get i with
  | some (.siter s p) => (match s with
    | [] => k (.tup [.bool false]) h
    | b :: l => iff' (Nat.ble b 127 && Nat.ble h.ro i) (k (.tup [.bool true, .int .i64 (.ofNat p), .int .i32 (.ofNat b)]) (h.put i (.siter l (p + 1)))))
  | _ => .no)
/-! ### operations by recursors alone -/
theorem arK_eq {f g : Int → Int → Int} (hf : ∀ a b, f a b = g a b) : arK f = iArithK g := by
  funext x y h k
  cases x <;> try rfl
  rename_i j a
  cases y <;> try rfl
  rename_i l b
  show iff' (keqK j l) (gI (wrapK j (f a b)) fun n => k (.int j n) h) = iff' (keq j l) (k (.int j (wrap j (g a b))) h)
  rw [keqK_eq, gI_eq, wrapK_eq, hf]
noncomputable def addK : H2 := fun x y h k =>
  cIS x .no (fun j a => y.asInt fun l b => iff' (keqK j l) (gI (wrapK j (iaddK a b)) fun n => k (.int j n) h)) (fun _ => p2 add2 x y h k)
theorem addK_eq : addK = p2 add2 := by
  funext x y h k
  cases x <;> try rfl
  rename_i j a
  cases y <;> try rfl
  rename_i l b
  show iff' (keqK j l) (gI (wrapK j (iaddK a b)) fun n => k (.int j n) h) = opt (bif keq j l then some (FV.int j (wrap j (Int.add a b))) else none) _
  rw [keqK_eq, gI_eq, wrapK_eq, iaddK_eq]
  cases keq j l <;> rfl
theorem cmpK_eq {f f' : Int → Int → Bool} {g g' : List Nat → List Nat → Bool} (hf : ∀ a b, f a b = f' a b) (hg : ∀ a b, g a b = g' a b) : cmpK f g = p2 (cmp2 f' g') := by
  funext x y h k
  cases x <;> try rfl
  case int j a =>
    cases y <;> try rfl
    rename_i l b
    show iff' (keqK j l) (k (.bool (f a b)) h) = opt (bif keq j l then some (FV.bool (f' a b)) else none) _
    rw [keqK_eq, hf]
    cases keq j l <;> rfl
  case str a =>
    cases y <;> try rfl
    rename_i b
    show k (.bool (g a b)) h = k (.bool (g' a b)) h
    rw [hg]
noncomputable def not' (b : Bool) : Bool := @Bool.rec (fun _ => Bool) true false b
theorem not'_eq (b : Bool) : not' b = !b := by cases b <;> rfl
noncomputable def lssK : H2 := fun x y h k => cIS x .no (fun j a => y.asInt fun l b => iff' (keqK j l) (k (.bool (iltK a b)) h)) (fun a => cS y .no fun b => k (.bool (slt a b)) h)
noncomputable def leqK : H2 := fun x y h k => cIS x .no (fun j a => y.asInt fun l b => iff' (keqK j l) (k (.bool (not' (iltK b a))) h)) (fun a => cS y .no fun b => k (.bool (slt a b || seq a b)) h)
noncomputable def gtrK : H2 := fun x y h k => cIS x .no (fun j a => y.asInt fun l b => iff' (keqK j l) (k (.bool (iltK b a)) h)) (fun a => cS y .no fun b => k (.bool (!(slt a b || seq a b))) h)
noncomputable def geqK : H2 := fun x y h k => cIS x .no (fun j a => y.asInt fun l b => iff' (keqK j l) (k (.bool (not' (iltK a b))) h)) (fun a => cS y .no fun b => k (.bool (!slt a b)) h)
theorem lssK_eq : lssK = p2 (binF .lss) := cmpK_eq iltK_eq fun _ _ => rfl
theorem leqK_eq : leqK = p2 (binF .leq) := cmpK_eq (fun a b => by rw [not'_eq, iltK_eq]) fun _ _ => rfl
theorem gtrK_eq : gtrK = p2 (binF .gtr) := cmpK_eq (fun a b => iltK_eq b a) fun _ _ => rfl
theorem geqK_eq : geqK = p2 (binF .geq) := cmpK_eq (fun a b => by rw [not'_eq, iltK_eq]) fun _ _ => rfl
noncomputable def eqTK (P : Program) (t : TypeId) : H2 := fun x y h k => cIS x (eqK P false t x y h k) (fun j a => y.asInt fun l b => iff' (keqK j l) (k (.bool (ieqK a b)) h)) (fun a => cS y .no fun b => k (.bool (seqK a b)) h)
noncomputable def neTK (P : Program) (t : TypeId) : H2 := fun x y h k => cIS x (eqK P true t x y h k) (fun j a => y.asInt fun l b => iff' (keqK j l) (k (.bool (not' (ieqK a b))) h)) (fun a => cS y .no fun b => k (.bool (not' (seqK a b))) h)
theorem eqTK_eq (P : Program) (t : TypeId) : eqTK P t = eqK P false t := by
  funext x y h k
  cases x <;> try rfl
  case int j a =>
    cases y <;> try rfl
    rename_i l b
    show iff' (keqK j l) (k (.bool (ieqK a b)) h) = opt (bif keq j l then some (FV.bool (ieq a b)) else none) _
    rw [keqK_eq, ieqK_eq]
    cases keq j l <;> rfl
  case str a =>
    cases y <;> try rfl
    rename_i b
    show k (.bool (seqK a b)) h = k (.bool (seq a b)) h
    rw [seqK_eq]
theorem neTK_eq (P : Program) (t : TypeId) : neTK P t = eqK P true t := by
  funext x y h k
  cases x <;> try rfl
  case int j a =>
    cases y <;> try rfl
    rename_i l b
    show iff' (keqK j l) (k (.bool (not' (ieqK a b))) h) = opt (bif keq j l then some (FV.bool (!ieq a b)) else none) _
    rw [keqK_eq, ieqK_eq, not'_eq]
    cases keq j l <;> rfl
  case str a =>
    cases y <;> try rfl
    rename_i b
    show k (.bool (not' (seqK a b))) h = k (.bool (!seq a b)) h
    rw [seqK_eq, not'_eq]
noncomputable def fldK (o : Nat) : H1 := fun x h k => x.asAgg fun cs => opt (nthK cs o) fun v => k v h
theorem fldK_eq (n o : Nat) : fldK o = fField false n o := by
  funext x h k
  cases x <;> try rfl
  rename_i cs
  show opt (nthK cs o) _ = opt (cs[o]?) _
  rw [nthK_eq]
noncomputable def extK (i : Nat) : H1 := fun x h k => x.asTup fun l => opt (nthK l i) fun v => k v h
noncomputable def loadNK (n : Nat) : H1 := fun a h k => a.asPtr fun i off => h.cells i fun _ _ m cs => iff' (Nat.ble (off + n) m) (opt (readK cs n off) fun l => k (.agg l) h)
theorem loadNK_eq (n : Nat) : loadNK n = fLoadN n := by
  funext x h k
  unfold loadNK fLoadN
  simp only [readK_eq]
noncomputable def lenLK : H1 := fun x h k => @FV.rec (fun _ => Ro) (fun _ => PUnit) (fun _ _ => .no) (fun _ => .no) (fun _ => .no) (fun _ _ => .no) (fun _ _ len _ _ => k (.int .i64 (.ofNat len)) h) .no (k (.int .i64 (.ofNat 0)) h) (fun _ _ _ _ _ => k (.int .i64 (.ofNat 0)) h) (fun _ => .no) .no (fun _ _ _ _ _ => .no) (fun _ => .no) .no (fun _ _ => .no) (fun _ _ => .no) ⟨⟩ (fun _ _ _ _ => ⟨⟩) x
noncomputable def boxK (t : TypeId) : H1 := fun x h k => cAT x (k (.ptr h.next 0) (h.new (.cells t 0 1 (.node 0 x .nil .nil)))) (fun l => k (.ptr h.next 0) (h.new (.cells t 0 (lenK l) (KT.fill l 0 .nil)))) (fun _ => .no)
theorem boxK_eq (t : TypeId) : boxK t = fBox t := by
  funext x h k
  cases x <;> try rfl
  rename_i l
  show k (.ptr h.next 0) (h.new (.cells t 0 (lenK l) (KT.fill l 0 .nil))) = _
  rw [lenK_eq]; rfl
noncomputable def stoK (n : Nat) : H2 := fun a x h k => cAT x
  (a.asPtr fun i off => h.cells i fun t g m cs => iff' (Nat.beq 1 n) (iff' (and' (Nat.ble (off + n) m) (and' (Nat.ble g 1) (Nat.ble h.ro i))) (k (.tup []) (h.put i (.cells t g m (cs.set off off x))))))
  (fun l => a.asPtr fun i off => h.cells i fun t g m cs => iff' (Nat.beq (lenK l) n) (iff' (and' (Nat.ble (off + n) m) (and' (Nat.ble g 1) (Nat.ble h.ro i))) (k (.tup []) (h.put i (.cells t g m (writeK l cs off))))))
  (fun _ => fStore n a x h k)
theorem stoK_eq (n : Nat) : stoK n = fStore n := by
  funext a x h k
  cases x
  case agg l =>
    show (a.asPtr fun i off => h.cells i fun t g m cs => iff' (Nat.beq (lenK l) n) (iff' (and' (Nat.ble (off + n) m) (and' (Nat.ble g 1) (Nat.ble h.ro i))) (k (.tup []) (h.put i (.cells t g m (writeK l cs off)))))) = _
    simp only [lenK_eq, and'_eq, writeK_eq]
    unfold fStore
    simp only [FV.cells, FV.cell, Bool.true_and]
  case tup l => rfl
  all_goals
    unfold stoK cAT fStore
    simp only [and'_eq, FV.cells, FV.cell, Bool.true_and, writeN, List.length_cons, List.length_nil]
noncomputable def fldB (b : Bool) (n o : Nat) : H1 := match b with | true => fField true n o | false => fldK o
theorem fldB_eq (b : Bool) (n o : Nat) : fldB b n o = fField b n o := by cases b; exact fldK_eq n o; rfl
/-! ### compiling an operation -/
noncomputable def placesOf (all : List (Nat × Nat)) : List (Nat × Operand) → Option (List (Nat × Nat))
  | [] => some []
  | (i, _) :: r => match all[i]?, placesOf all r with | some q, some l => some (q :: l) | _, _ => none
noncomputable def placesA (s : Nat) : List (Nat × Operand) → List (Nat × Nat)
  | [] => []
  | (i, _) :: r => (i * s, s) :: placesA s r
noncomputable def bytesT (P : Program) (t : TypeId) : Option Nat := (P.info? t).map (·.bytes)
noncomputable def secondT (P : Program) (t : Option TypeId) : Bool := match t with
  | some t => (match P.underlying t with | some (.slice _) => true | some .string => true | _ => false)
  | none => false
noncomputable def appT (P : Program) (argT : Array TypeId) : Option (TypeId × Nat) := match argT[0]? with
  | some t => (match Tslice P t with
    | some (e, s) => (match zeroT P e, bytesT P e with
      | some z, some b => bif Nat.ble 1 s && (Nat.beq z.cells.length s && (Nat.ble b 1000000 && secondT P argT[1]?)) then some (e, s) else none
      | _, _ => none)
    | none => none)
  | none => none
noncomputable def cLenB (P : Program) (N : Nat) (argT : Array TypeId) (x : Operand) : OBox := match argT[0]? with
    | some t => (match P.underlying t with
      | some (.array n _) => .mk (op1 (cO N x) (fLenA n))
      | some .string => .mk (op1 (cO N x) fLenS)
      | some (.slice _) => .mk (op1 (cO N x) lenLK)
      | some (.map _ _) => .mk (op1 (cO N x) fLenM)
      | _ => .mk opNo)
    | none => .mk opNo
noncomputable def cCapB (P : Program) (N : Nat) (argT : Array TypeId) (x : Operand) : OBox := match argT[0]? with
    | some t => (match P.underlying t with
      | some (.slice _) => .mk (op1 (cO N x) (p1 fCap))
      | _ => .mk opNo)
    | none => .mk opNo
noncomputable def cAppendB (P : Program) (N : Nat) (argT : Array TypeId) (x y : Operand) : OBox := match appT P argT with
    | some (e, s) => .mk (op2 (cO N x) (cO N y) (fAppend e s))
    | none => .mk opNo
noncomputable def cCopyB (P : Program) (N : Nat) (argT : Array TypeId) (x y : Operand) : OBox := match argT[0]? with
    | some t => (match Tslice P t with | some (_, s) => .mk (op2 (cO N x) (cO N y) (fCopy s)) | none => .mk opNo)
    | none => .mk opNo
noncomputable def cBuiltin (P : Program) (N : Nat) (b : Builtin) (argT : Array TypeId) (args : List Operand) : OBox :=
  match b with
  | .len => (match args with | [x] => cLenB P N argT x | _ => .mk opNo)
  | .cap => (match args with | [x] => cCapB P N argT x | _ => .mk opNo)
  | .append => (match args with | [x, y] => cAppendB P N argT x y | _ => .mk opNo)
  | .copy => (match args with | [x, y] => cCopyB P N argT x y | _ => .mk opNo)
  | .max => .mk (opL (args.map (cO N)) (fMinmax true))
  | .min => .mk (opL (args.map (cO N)) (fMinmax false))
  | _ => .mk opNo
noncomputable def cMove (P : Program) (N : Nat) (x : Operand) : OBox := .mk (op1 (cO N x) fMove)
noncomputable def cAssign (P : Program) (N : Nat) (x : Operand) : OBox := .mk (op1 (cO N x) fMove)
noncomputable def cPick (P : Program) (N : Nat) (c a b : Operand) : OBox := .mk (opPick (cO N c) (cO N a) (cO N b))
noncomputable def cAlloc (P : Program) (N : Nat) (t : TypeId) : OBox := match zeroT P t with | some z => (bif z.cell then .mk (opAlloc t z.cells.length z.cells) else .mk opNo) | none => .mk opNo
noncomputable def cBox (P : Program) (N : Nat) (t : TypeId) (x : Operand) : OBox := .mk (op1 (cO N x) (boxK t))
noncomputable def cBuild (P : Program) (N : Nat) (t : TypeId) (ps : Array (Nat × Operand)) : OBox := match zeroT P t with
    | none => .mk opNo
    | some z => bif !z.cell then .mk opNo else match P.underlying t with
      | some (.struct fs) => (match fs.toList.mapM (fun f => (P.info? f.type).map fun i => (f.offset, i.size)) with
        | some all => (match placesOf all ps.toList with
          | some pl => .mk (opL ((ps.toList.map (·.2)).map (cO N)) (fBuild pl z.cells))
          | none => .mk opNo)
        | none => .mk opNo)
      | some (.array _ e) => (match sizeT P e with
        | some s => .mk (opL ((ps.toList.map (·.2)).map (cO N)) (fBuild (placesA s ps.toList) z.cells))
        | none => .mk opNo)
      | _ => .mk opNo
noncomputable def cBuildSlice (P : Program) (N : Nat) (t : TypeId) (n : Nat) (ps : Array (Nat × Operand)) : OBox := match Tslice P t with
    | some (e, s) => (match zeroT P e with
      | some z => bif Nat.beq z.cells.length s && (Nat.ble 1 s && (z.cell && Nat.ble (n * s) 16777216)) then .mk (opL ((ps.toList.map (·.2)).map (cO N)) (fBuildSlice e (n * s) n (placesA s ps.toList) (rep z.cells n))) else .mk opNo
      | none => .mk opNo)
    | none => .mk opNo
noncomputable def cLoad (P : Program) (N : Nat) (t : TypeId) (a : Operand) : OBox := match sizeT P t, aggT P t with | some n, some true => .mk (op1 (cO N a) (loadNK n)) | some _, some false => .mk (op1 (cO N a) fLoad1) | _, _ => .mk opNo
noncomputable def cStore (P : Program) (N : Nat) (t : TypeId) (a x : Operand) : OBox := match sizeT P t with | some n => .mk (op2 (cO N a) (cO N x) (stoK n)) | none => .mk opNo
noncomputable def cNilCheck (P : Program) (N : Nat) (x : Operand) : OBox := .mk (op1 (cO N x) fNilCheck)
noncomputable def cBinOp (P : Program) (N : Nat) (op : BinOp) (t : TypeId) (x y : Operand) : OBox := (match op with | .eql => .mk (op2 (cO N x) (cO N y) (eqTK P t)) | .neq => .mk (op2 (cO N x) (cO N y) (neTK P t)) | .add => .mk (op2 (cO N x) (cO N y) addK) | .sub => .mk (op2 (cO N x) (cO N y) (arK isubK)) | .mul => .mk (op2 (cO N x) (cO N y) (arK Int.mul)) | .lss => .mk (op2 (cO N x) (cO N y) lssK) | .leq => .mk (op2 (cO N x) (cO N y) leqK) | .gtr => .mk (op2 (cO N x) (cO N y) gtrK) | .geq => .mk (op2 (cO N x) (cO N y) geqK) | op => .mk (op2 (cO N x) (cO N y) (p2 (binF op))))
noncomputable def cUnOp (P : Program) (N : Nat) (op : UnOp) (x : Operand) : OBox := .mk (op1 (cO N x) (p1 (unF op)))
noncomputable def cConvert (P : Program) (N : Nat) (s d : TypeId) (x : Operand) : OBox := match P.underlying s, P.underlying d with
    | some (.int _), some (.int k) => .mk (op1 (cO N x) (fConvI k))
    | some .string, some .string => .mk (op1 (cO N x) fConvS)
    | some .string, some (.slice e) => (match P.underlying e with | some (.int .u8) => .mk (op1 (cO N x) (fConvSB e)) | _ => .mk opNo)
    | some (.slice e), some .string => (match P.underlying e with | some (.int .u8) => .mk (op1 (cO N x) fConvBS) | _ => .mk opNo)
    | _, _ => .mk opNo
noncomputable def cMakeFunc (P : Program) (N : Nat) (f : FuncId) (first cap : Array Operand) : OBox := .mk (opL ((first ++ cap).toList.map (cO N)) (fMakeFunc f first.size))
noncomputable def cMakeMap (P : Program) (N : Nat)  : OBox := .mk opMakeMap
noncomputable def cMakeSlice (P : Program) (N : Nat) (t : TypeId) (l c : Operand) : OBox := match Tslice P t with
    | some (e, s) => (match zeroT P e, bytesT P e with
      | some z, some b => bif Nat.beq z.cells.length s && (Nat.ble 1 s && (z.cell && Nat.ble b 1000000)) then .mk (op2 (cO N l) (cO N c) (fMakeSlice e s z.cells)) else .mk opNo
      | _, _ => .mk opNo)
    | none => .mk opNo
noncomputable def cSlice (P : Program) (N : Nat) (t : TypeId) (x : Operand) (lo : Option Operand) (hi mx : Operand) : OBox := match Tslice P t with
    | some (e, s) => bif Nat.ble 1 s then .mk (opL ((x :: (lo.toList ++ [hi, mx])).map (cO N)) (fSlice3 e lo.isSome s)) else .mk opNo
    | none => .mk opNo
noncomputable def cSlice2 (P : Program) (N : Nat) (t : TypeId) (x : Operand) (lo hi : Option Operand) : OBox :=
    match P.underlying t with
    | some .string => .mk (opL ((x :: (lo.toList ++ hi.toList)).map (cO N)) (fSliceStr lo.isSome hi.isSome))
    | some (.slice e) => (match sizeT P e with | some s => (bif Nat.ble 1 s then .mk (opL ((x :: (lo.toList ++ hi.toList)).map (cO N)) (fSliceS e lo.isSome hi.isSome s)) else .mk opNo) | none => .mk opNo)
    | some (.array n e) => (match sizeT P e with | some s => .mk (opL ((x :: (lo.toList ++ hi.toList)).map (cO N)) (fSliceA n s lo.isSome hi.isSome)) | none => .mk opNo)
    | _ => .mk opNo
noncomputable def cSliceQ (P : Program) (N : Nat) (t : TypeId) (x : Operand) (lo hi : Option Operand) : OBox :=
    match P.underlying t with
    | some .string => .mk (opL ((x :: (lo.toList ++ hi.toList)).map (cO N)) (fSliceStr lo.isSome hi.isSome))
    | some (.slice e) => (match sizeT P e with | some s => (bif Nat.ble 1 s then .mk (opL ((x :: (lo.toList ++ hi.toList)).map (cO N)) (fSliceQ e lo.isSome hi.isSome s)) else .mk opNo) | none => .mk opNo)
    | some (.array n e) => (match sizeT P e with | some s => .mk (opL ((x :: (lo.toList ++ hi.toList)).map (cO N)) (fSliceA n s lo.isSome hi.isSome)) | none => .mk opNo)
    | _ => .mk opNo
noncomputable def cFieldAddr (P : Program) (N : Nat) (t : TypeId) (x : Operand) (f : Nat) : OBox := match Tfield P t f with
    | some (o, s, _) => bif Nat.beq s 0 then .mk opNo else .mk (op1 (cO N x) (fFieldAddr o))
    | none => .mk opNo
noncomputable def cField (P : Program) (N : Nat) (t : TypeId) (x : Operand) (f : Nat) : OBox := match Tfield P t f with
    | some (o, s, ft) => (match aggT P ft with | some b => .mk (op1 (cO N x) (fldB b s o)) | none => .mk opNo)
    | none => .mk opNo
noncomputable def cIndexAddr (P : Program) (N : Nat) (t : TypeId) (x i : Operand) : OBox := match Tslice P t with
    | some (_, s) => .mk (op2 (cO N x) (cO N i) (fIndexAddr s))
    | none => match Tarr P t with | some (n, _, s) => .mk (op2 (cO N x) (cO N i) (fIndexAddrA n s)) | none => .mk opNo
noncomputable def cIndex (P : Program) (N : Nat) (t : TypeId) (x i : Operand) : OBox := match P.underlying t with
    | some .string => .mk (op2 (cO N x) (cO N i) fIndexS)
    | _ => match Tarr P t with | some (n, e, s) => (match aggT P e with | some b => .mk (op2 (cO N x) (cO N i) (fIndexA b n s)) | none => .mk opNo) | none => .mk opNo
noncomputable def cLookup (P : Program) (N : Nat) (t : TypeId) (m k : Operand) (b : Bool) : OBox := match P.underlying t with
    | some (.map kt e) => (match zeroT P e with | some z => .mk (op2 (cO N m) (cO N k) (fLookup P kt z b)) | none => .mk opNo)
    | _ => .mk opNo
noncomputable def cMapUpdate (P : Program) (N : Nat) (t : TypeId) (m k x : Operand) : OBox := (match P.underlying t with | some (.map kt _) => .mk (op3 (cO N m) (cO N k) (cO N x) (fMapUpdate P kt)) | _ => .mk opNo)
noncomputable def cInsert (P : Program) (N : Nat) (t : TypeId) (m k x : Operand) : OBox := (match P.underlying t with | some (.map kt _) => .mk (op3 (cO N m) (cO N k) (cO N x) (fMapUpdate P kt)) | _ => .mk opNo)
noncomputable def cMapEntry (P : Program) (N : Nat) (t : TypeId) (m k : Operand) : OBox := match P.underlying t with
    | some (.map kt e) => (match zeroT P e with | some z => .mk (op2 (cO N m) (cO N k) (fMapEntry P kt z)) | none => .mk opNo)
    | _ => .mk opNo
noncomputable def cEntryStore (P : Program) (N : Nat) (m s x : Operand) : OBox := .mk (op3 (cO N m) (cO N s) (cO N x) fEntryStore)
noncomputable def cRangeI (P : Program) (N : Nat) (t : TypeId) (x : Operand) : OBox := match P.underlying t with | some .string => .mk (op1 (cO N x) fRange) | _ => .mk opNo
noncomputable def cNextI (P : Program) (N : Nat) (x : Operand) : OBox := .mk (op1 (cO N x) fNext)
noncomputable def cExtract (P : Program) (N : Nat) (t : Operand) (i : Nat) : OBox := .mk (op1 (cO N t) (extK i))
noncomputable def cCall (P : Program) (N : Nat) (c : Call) : OBox := match c.callee with
    | .builtin b => cBuiltin P N b c.argTypes c.args.toList
    | .value f => .mk (opCall (cO N f) (c.args.toList.map (cO N)))
    | .invoke _ _ => .mk opNo
noncomputable def cOp (P : Program) (N : Nat) (o : Oper) : OBox :=
  match o.op with
  | .move x => cMove P N x
  | .assign x => cAssign P N x
  | .pick c a b => cPick P N c a b
  | .alloc t => cAlloc P N t
  | .box t x => cBox P N t x
  | .build t ps => cBuild P N t ps
  | .buildSlice t n ps => cBuildSlice P N t n ps
  | .load t a => cLoad P N t a
  | .store t a x => cStore P N t a x
  | .nilCheck x => cNilCheck P N x
  | .binOp op t x y _ => cBinOp P N op t x y
  | .unOp op _ x => cUnOp P N op x
  | .convert s d x => cConvert P N s d x
  | .makeFunc (.func f) first cap => cMakeFunc P N f first cap
  | .makeMap _ none => cMakeMap P N
  | .makeSlice t l c => cMakeSlice P N t l c
  | .slice t x lo (some hi) (some mx) => cSlice P N t x lo hi mx
  | .slice t x lo hi none => cSlice2 P N t x lo hi
  | .fieldAddr t x f => cFieldAddr P N t x f
  | .field t x f => cField P N t x f
  | .indexAddr t x i => cIndexAddr P N t x i
  | .index t x i => cIndex P N t x i
  | .lookup t m k b => cLookup P N t m k b
  | .mapUpdate t m k x => cMapUpdate P N t m k x
  | .insert t m k x => cInsert P N t m k x
  | .mapEntry t m k => cMapEntry P N t m k
  | .entryStore _ m s x => cEntryStore P N m s x
  | .range t x => cRangeI P N t x
  | .next x true => cNextI P N x
  | .extract t i => cExtract P N t i
  | .call c => cCall P N c
  | _ => .mk opNo
/-! ### regions -/
abbrev KR := T3 → FH → Ro
abbrev RT := CallT → T3 → FH → KR → Ro
inductive RB where | mk (f : RT)
inductive SB where | mk (s : Option FV → T3 → T3) | no
noncomputable def cD (N : Nat) : Option Tmp → SB
  | some d => (match cP N d with | .mk _ s => .mk s | .no => .no)
  | none => .mk fun _ t => t
noncomputable def next (call : CallT) (s : Option FV → T3 → T3) (rest : RB) (k : KR) (ts : T3) : KV := fun w h' => @RB.rec (fun _ => Ro) (fun q => q call (s (some w) ts) h' k) rest
noncomputable def stP (f : OpT) (s : Option FV → T3 → T3) (rest : RB) : RT := fun call ts h k => f call ts h (next call s rest k ts)
noncomputable def gdK (g : T3 → Option FV) (want : Bool) (ts : T3) (yes nay : Ro) : Ro := opt (g ts) fun v => @FV.rec (fun _ => Ro) (fun _ => PUnit) (fun _ _ => nay) (fun b => @Bool.rec (fun _ => Ro) (@Bool.rec (fun _ => Ro) yes nay b) (@Bool.rec (fun _ => Ro) nay yes b) want) (fun _ => nay) (fun _ _ => nay) (fun _ _ _ _ _ => nay) nay nay (fun _ _ _ _ _ => nay) (fun _ => nay) nay (fun _ _ _ _ _ => nay) (fun _ => nay) nay (fun _ _ => nay) (fun _ _ => nay) ⟨⟩ (fun _ _ _ _ => ⟨⟩) v
theorem gdK_eq (g : T3 → Option FV) (want : Bool) (ts : T3) (yes nay : Ro) : gdK g want ts yes nay = opt (g ts) fun v => match v with
    | .bool b => (match (bif want then b else !b) with
      | true => yes
      | false => nay)
    | _ => nay := by
  unfold gdK
  cases g ts with
  | none => rfl
  | some v =>
    cases v <;> try rfl
    rename_i b
    cases want <;> cases b <;> rfl
noncomputable def stG (g : T3 → Option FV) (want : Bool) (f : OpT) (s : Option FV → T3 → T3) (rest : RB) : RT := fun call ts h k =>
  gdK g want ts (f call ts h (next call s rest k ts)) (next call s rest k ts (.tup []) h)
noncomputable def stNo : RT := fun _ _ _ _ => .no
noncomputable def cStep (N : Nat) (ob : OBox) (sb : SB) (g : Option (Nat × Bool)) (ops : Array Oper) (rest : RB) : RB := match ob, sb with
  | .mk f, .mk s => (match g with
    | none => .mk (stP f s rest)
    | some (j, want) => (match ops[j]? with
      | some o => (match o.dst with
        | some d => (match cP N d with
          | .mk g _ => .mk (stG g want f s rest)
          | .no => .mk stNo)
        | none => .mk stNo)
      | none => .mk stNo))
  | _, _ => .mk stNo
noncomputable def cR (P : Program) (N : Nat) (ops : Array Oper) : List Oper → RB
  | [] => .mk fun _ ts h k => k ts h
  | o :: r => cStep N (cOp P N o) (cD N o.dst) o.guard ops (cR P N ops r)
/-! ### code -/
inductive Ex where | normal | exit (id : Nat) | ret
inductive Mk where | m (i : Nat) | d (f : FuncId) (args cap : List FV)
abbrev KC := Ex → T3 → FH → List Mk → Ro
abbrev CT := CallT → Option Nat → T3 → FH → List Mk → KC → Ro
inductive CBox where | mk (f : CT)
noncomputable def CBox.run (a : CBox) : CT := fun call rd ts h ms k => @CBox.rec (fun _ => Ro) (fun f => f call rd ts h ms k) a
noncomputable def cSeq (a b : CBox) : CT := fun call rd ts h ms k => a.run call rd ts h ms fun e ts' h' ms' => @Ex.rec (fun _ => Ro) (b.run call rd ts' h' ms' k) (fun id => k (.exit id) ts' h' ms') (k .ret ts' h' ms') e
noncomputable def cCond (c : Opd) (a b : CBox) : CT := fun call rd ts h ms k => c.ev ts fun v => v.asBool fun x => @Bool.rec (fun _ => Ro) (b.run call rd ts h ms k) (a.run call rd ts h ms k) x
noncomputable def cBlock (id : Nat) (a : CBox) : CT := fun call rd ts h ms k => a.run call rd ts h ms fun e ts' h' ms' =>
  @Ex.rec (fun _ => Ro) (k .normal ts' h' ms') (fun j => @Bool.rec (fun _ => Ro) (k (.exit j) ts' h' ms') (k .normal ts' h' ms') (Nat.beq j id)) (k .ret ts' h' ms') e
noncomputable def loopN (a : CBox) (n : Nat) : CT := @Nat.rec (fun _ => CT) (fun _ _ _ _ _ _ => .no)
  (fun _ ih call rd ts h ms k => a.run call rd ts h ms fun e ts' h' ms' => @Ex.rec (fun _ => Ro) (ih call rd ts' h' ms' k) (fun j => k (.exit j) ts' h' ms') (k .ret ts' h' ms') e) n
noncomputable def cRegion (a : RB) : CT := fun call _ ts h ms k => @RB.rec (fun _ => Ro) (fun q => q call ts h fun ts' h' => k .normal ts' h' ms) a
noncomputable def okF (P : Program) (f : FuncId) : Bool := match P.funcs[f]? with | some fn => fn.body.isSome && !(fn.name == "runtime.NumGoroutine") | none => false
noncomputable def lastD (l : List Oper) : Option (Operand × List Operand) := match l.getLast? with
  | some o => (match o.op, o.guard, o.dst with
    | .defer c, none, none => (match c.callee with | .value f => some (f, c.args.toList) | _ => none)
    | _, _, _ => none)
  | none => none
noncomputable def cRegionD (P : Program) (a : RB) (f : Opd) (az : List Opd) : CT := fun call rd ts h ms k => match rd with
  | some _ => .no
  | none => @RB.rec (fun _ => Ro) (fun q => q call ts h fun ts' h' => f.ev ts' fun v => match v with
    | .fn g first cap => evL az ts' fun us => iff' (okF P g) (k .normal ts' h' (.d g (first ++ us) cap :: ms))
    | _ => .no) a
noncomputable def cReg (P : Program) (N : Nat) (ops : Array Oper) : CBox := match lastD ops.toList with
  | none => .mk (cRegion (cR P N ops ops.toList))
  | some (f, az) => .mk (cRegionD P (cR P N ops ops.toList.dropLast) (cO N f) (az.map (cO N)))
noncomputable def jumpE : Option Jump → Ex
  | none => .normal
  | some .ret => .ret
  | some (.exit id) => .exit id
noncomputable def isLoop (h : FH) (l : Nat) : Bool := match h.get l with | some (.loop _ _ _ _ _ _ _) => true | _ => false
noncomputable def rangeGo (N : Nat) (params : List Tmp) (assign body : Code) (call : CallT) (ts : T3) (g : FuncId) (first cap : List FV) (h1 : FH) (ms1 : List Mk) (k : KC) : Ro :=
    call (.fn g) (first ++ (.yl h1.next :: cap)) (h1.new (.loop 0 none N ts params assign body)) fun _ h2 => match h2.get h1.next with
      | some (.loop st pend _ _ _ _ _) => bif Nat.beq st 1 then .no else k (jumpE pend) ts (h2.put h1.next .dead) ms1
      | _ => .no
noncomputable def cRange (N : Nat) (f : Opd) (params : List Tmp) (assign body : Code) : CT := fun call rd ts h ms k => f.ev ts fun v => match v with
  | .fn g first cap => (match rd with
    | none => rangeGo N params assign body call ts g first cap (h.new .mark) (.m h.next :: ms) k
    | some l0 => iff' (isLoop h l0) (rangeGo N params assign body call ts g first cap h ms k))
  | _ => .no
/-! ### regions that draw their order -/
/-! ### the same state under other numbers -/
mutual
noncomputable def eqR (r : Nat → Nat) : FV → FV → Bool
  | .int k a, y => (match y with | .int l b => keq k l && ieq a b | _ => false)
  | .bool a, y => (match y with | .bool b => a == b | _ => false)
  | .str a, y => (match y with | .str b => seq a b | _ => false)
  | .ptr i o, y => (match y with | .ptr j p => Nat.beq (r i) j && Nat.beq o p | _ => false)
  | .slice i o l c d, y => (match y with | .slice i' o' l' c' d' => Nat.beq (r i) i' && (Nat.beq o o' && (Nat.beq l l' && (c == c' && Nat.beq d d'))) | _ => false)
  | .nilp, y => (match y with | .nilp => true | _ => false)
  | .nils, y => (match y with | .nils => true | _ => false)
  | .emp i o c q s, y => (match y with | .emp i' o' c' q' s' => Nat.beq (r i) i' && (Nat.beq o o' && (Nat.beq c c' && (Nat.beq q q' && Nat.beq s s'))) | _ => false)
  | .map i, y => (match y with | .map j => Nat.beq (r i) j | _ => false)
  | .nilm, y => (match y with | .nilm => true | _ => false)
  | .fn f a b, y => (match y with | .fn g c d => Nat.beq f g && (eqRs r a c && eqRs r b d) | _ => false)
  | .yl i, y => (match y with | .yl j => Nat.beq (r i) j | _ => false)
  | .nilf, y => (match y with | .nilf => true | _ => false)
  | .agg a, y => (match y with | .agg b => eqRs r a b | _ => false)
  | .tup a, y => (match y with | .tup b => eqRs r a b | _ => false)
noncomputable def eqRs (r : Nat → Nat) : List FV → List FV → Bool
  | [], y => (match y with | [] => true | _ => false)
  | a :: x, y => (match y with | [] => false | b :: y => eqR r a b && eqRs r x y)
end
noncomputable def allN (f : Nat → Bool) (n : Nat) : Bool := @Nat.rec (fun _ => Bool) true (fun j ih => bif f j then ih else false) n
noncomputable def eqO (r : Nat → Nat) (x y : Option FV) : Bool := match y with | none => true | some y => (match x with | some x => eqR r x y | none => false)
noncomputable def eqMs (r : Nat → Nat) : List (FV × FV × Nat) → List (FV × FV × Nat) → Bool
  | [], y => (match y with | [] => true | _ => false)
  | (a, b, c) :: x, y => (match y with | [] => false | (a', b', c') :: y => eqR r a a' && (eqR r b b' && (Nat.beq c c' && eqMs r x y)))
noncomputable def eqB (r : Nat → Nat) (x y : Blk) : Bool := match x with
  | .cells t g m cs => (match y with | .cells t' g' m' cs' => Nat.beq t t' && (Nat.beq g g' && (Nat.beq m m' && allN (fun j => eqO r (cs.get j j) (cs'.get j j)) m)) | _ => false)
  | .map es c => (match y with | .map es' c' => eqMs r es es' && Nat.beq c c' | _ => false)
  | .siter s p => (match y with | .siter s' p' => seq s s' && Nat.beq p p' | _ => false)
  | .mark => (match y with | .mark => true | _ => false)
  | .dead => (match y with | .dead => true | _ => false)
  | .loop _ _ _ _ _ _ _ => false
noncomputable def keysB {α : Type} (n : Nat) (t : KT α) : Bool := @KT.rec α (fun _ => Bool) true (fun k _ _ _ l r => @Bool.rec (fun _ => Bool) false (@Bool.rec (fun _ => Bool) false r l) (Nat.ble (Nat.succ k) n)) t
noncomputable def eqv (N n : Nat) (r r' : Nat → Nat) (ts1 : T3) (h1 : FH) (ts2 : T3) (h2 : FH) : Bool :=
  Nat.beq h1.next h2.next && (Nat.beq h1.ro h2.ro && (Nat.ble n h1.next && (Nat.ble h1.ro n && (keysB h1.next h1.t &&
    (allN (fun j => bif Nat.ble n j then Nat.ble n (r j) && (Nat.ble (r j + 1) h1.next && (Nat.beq (r' (r j)) j && (Nat.ble n (r' j) && (Nat.ble (r' j + 1) h1.next && Nat.beq (r (r' j)) j)))) else Nat.beq (r j) j && Nat.beq (r' j) j) h1.next &&
    (allN (fun j => match h1.get j with | none => true | some b1 => (match h2.get (r' j) with | some b2 => eqB r b2 b1 | none => false)) h1.next &&
    allN (fun t => match cP N t with | .mk g _ => eqO r (g ts2) (g ts1) | .no => true) N))))))
noncomputable def bqK (a b : Bool) : Bool := @Bool.rec (fun _ => Bool) (@Bool.rec (fun _ => Bool) true false b) b a
noncomputable def eqRK (r : Nat → Nat) (x y : FV) : Bool := @FV.rec (fun _ => Bool) (fun _ => PUnit)
  (fun k a => cI y false fun l b => and' (keqK k l) (ieqK a b)) (fun _ => eqR r x y) (fun a => cS y false fun b => seqK a b)
  (fun i o => @FV.rec (fun _ => Bool) (fun _ => PUnit) (fun _ _ => false) (fun _ => false) (fun _ => false) (fun j p => and' (Nat.beq (r i) j) (Nat.beq o p)) (fun _ _ _ _ _ => false) false false (fun _ _ _ _ _ => false) (fun _ => false) false (fun _ _ _ _ _ => false) (fun _ => false) false (fun _ _ => false) (fun _ _ => false) ⟨⟩ (fun _ _ _ _ => ⟨⟩) y)
  (fun i o l c d => @FV.rec (fun _ => Bool) (fun _ => PUnit) (fun _ _ => false) (fun _ => false) (fun _ => false) (fun _ _ => false) (fun i' o' l' c' d' => and' (Nat.beq (r i) i') (and' (Nat.beq o o') (and' (Nat.beq l l') (and' (bqK c c') (Nat.beq d d'))))) false false (fun _ _ _ _ _ => false) (fun _ => false) false (fun _ _ _ _ _ => false) (fun _ => false) false (fun _ _ => false) (fun _ _ => false) ⟨⟩ (fun _ _ _ _ => ⟨⟩) y)
  (eqR r x y) (eqR r x y) (fun _ _ _ _ _ => eqR r x y) (fun _ => eqR r x y) (eqR r x y) (fun _ _ _ _ _ => eqR r x y) (fun _ => eqR r x y) (eqR r x y) (fun _ _ => eqR r x y) (fun _ _ => eqR r x y) ⟨⟩ (fun _ _ _ _ => ⟨⟩) x
theorem bqK_eq (a b : Bool) : bqK a b = (a == b) := by cases a <;> cases b <;> rfl
theorem eqRK_eq (r : Nat → Nat) (x y : FV) : eqRK r x y = eqR r x y := by
  cases x
  case int k a =>
    cases y <;> first | rfl | skip
    rename_i l b
    show and' (keqK k l) (ieqK a b) = _
    rw [and'_eq, keqK_eq, ieqK_eq]; rfl
  case str a =>
    cases y <;> first | rfl | skip
    rename_i b
    show seqK a b = _
    rw [seqK_eq]; rfl
  case ptr i o =>
    cases y <;> first | rfl | skip
    rename_i j p
    show and' (Nat.beq (r i) j) (Nat.beq o p) = _
    rw [and'_eq]; rfl
  case slice i o l c d =>
    cases y <;> first | rfl | skip
    rename_i i' o' l' c' d'
    show and' (Nat.beq (r i) i') (and' (Nat.beq o o') (and' (Nat.beq l l') (and' (bqK c c') (Nat.beq d d')))) = _
    simp only [and'_eq, bqK_eq]; rfl
  all_goals rfl
noncomputable def allK (f : Nat → Bool) (n : Nat) : Bool := @Nat.rec (fun _ => Bool) true (fun j ih => @Bool.rec (fun _ => Bool) false ih (f j)) n
theorem allK_eq {f g : Nat → Bool} (h : ∀ j, f j = g j) : ∀ n, allK f n = allN g n
  | 0 => rfl
  | n + 1 => by
    show (@Bool.rec (fun _ => Bool) false (allK f n) (f n)) = (bif g n then allN g n else false)
    rw [allK_eq h n, h n]; cases g n <;> rfl
noncomputable def eqOK (r : Nat → Nat) (x y : Option FV) : Bool := @Option.rec FV (fun _ => Bool) true (fun y => @Option.rec FV (fun _ => Bool) false (fun x => eqRK r x y) x) y
theorem eqOK_eq (r : Nat → Nat) (x y : Option FV) : eqOK r x y = eqO r x y := by cases y <;> first | rfl | (cases x <;> first | rfl | exact eqRK_eq _ _ _)
noncomputable def eqBK (r : Nat → Nat) (x y : Blk) : Bool := @Blk.rec (fun _ => Bool)
  (fun t g m cs => @Blk.rec (fun _ => Bool) (fun t' g' m' cs' => and' (Nat.beq t t') (and' (Nat.beq g g') (and' (Nat.beq m m') (allK (fun j => eqOK r (cs.get j j) (cs'.get j j)) m)))) (fun _ _ => false) (fun _ _ _ _ _ _ _ => false) (fun _ _ => false) false false y)
  (fun _ _ => eqB r x y) (fun _ _ _ _ _ _ _ => eqB r x y) (fun _ _ => eqB r x y) (eqB r x y) (eqB r x y) x
theorem eqBK_eq (r : Nat → Nat) (x y : Blk) : eqBK r x y = eqB r x y := by
  cases x
  case cells t g m cs =>
    cases y <;> first | rfl | skip
    rename_i t' g' m' cs'
    show and' (Nat.beq t t') (and' (Nat.beq g g') (and' (Nat.beq m m') (allK (fun j => eqOK r (cs.get j j) (cs'.get j j)) m))) = _
    rw [allK_eq (g := fun j => eqO r (cs.get j j) (cs'.get j j)) (fun j => eqOK_eq _ _ _)]
    simp only [and'_eq]; rfl
  all_goals rfl
noncomputable def eqvK (N n : Nat) (r r' : Nat → Nat) (ts1 : T3) (h1 : FH) (ts2 : T3) (h2 : FH) : Bool :=
  and' (Nat.beq h1.next h2.next) (and' (Nat.beq h1.ro h2.ro) (and' (Nat.ble n h1.next) (and' (Nat.ble h1.ro n) (and' (keysB h1.next h1.t)
    (and' (allK (fun j => @Bool.rec (fun _ => Bool) (and' (Nat.beq (r j) j) (Nat.beq (r' j) j)) (and' (Nat.ble n (r j)) (and' (Nat.ble (r j + 1) h1.next) (and' (Nat.beq (r' (r j)) j) (and' (Nat.ble n (r' j)) (and' (Nat.ble (r' j + 1) h1.next) (Nat.beq (r (r' j)) j)))))) (Nat.ble n j)) h1.next)
    (and' (allK (fun j => @Option.rec Blk (fun _ => Bool) true (fun b1 => @Option.rec Blk (fun _ => Bool) false (fun b2 => eqBK r b2 b1) (h2.get (r' j))) (h1.get j)) h1.next)
    (allK (fun t => @PB.rec (fun _ => Bool) (fun g _ => eqOK r (g ts2) (g ts1)) true (cP N t)) N)))))))
theorem eqvK_eq (N n : Nat) (r r' : Nat → Nat) (ts1 : T3) (h1 : FH) (ts2 : T3) (h2 : FH) : eqvK N n r r' ts1 h1 ts2 h2 = eqv N n r r' ts1 h1 ts2 h2 := by
  unfold eqvK eqv
  rw [allK_eq (g := fun j => bif Nat.ble n j then Nat.ble n (r j) && (Nat.ble (r j + 1) h1.next && (Nat.beq (r' (r j)) j && (Nat.ble n (r' j) && (Nat.ble (r' j + 1) h1.next && Nat.beq (r (r' j)) j)))) else Nat.beq (r j) j && Nat.beq (r' j) j) (fun j => by simp only [and'_eq]; cases Nat.ble n j <;> rfl)]
  rw [allK_eq (g := fun j => match h1.get j with | none => true | some b1 => (match h2.get (r' j) with | some b2 => eqB r b2 b1 | none => false)) (fun j => by simp only [eqBK_eq]; cases h1.get j <;> first | rfl | (cases h2.get (r' j) <;> rfl))]
  rw [allK_eq (g := fun t => match cP N t with | .mk g _ => eqO r (g ts2) (g ts1) | .no => true) (fun t => by simp only [eqOK_eq]; cases cP N t <;> rfl)]
  simp only [and'_eq]
noncomputable def rotU (a b x : Nat) : Nat := bif Nat.beq x a then b else bif Nat.ble b x && Nat.ble (x + 1) a then x + 1 else x
noncomputable def rotD (a b y : Nat) : Nat := bif Nat.beq y b then a else bif Nat.ble (b + 1) y && Nat.ble y a then y - 1 else y
noncomputable def idOf : FV → Option Nat
  | .ptr i _ => some i | .slice i _ _ _ _ => some i | .map i => some i | _ => none
noncomputable def rots (ts1 ts2 : T3) : List (T3 → Option FV) → (Nat → Nat) × (Nat → Nat) → (Nat → Nat) × (Nat → Nat)
  | [], p => p
  | g :: gs, p => (match (g ts2).bind idOf, (g ts1).bind idOf with
    | some a, some b => rots ts1 ts2 gs (fun x => rotU (p.1 a) b (p.1 x), fun y => p.2 (rotD (p.1 a) b y))
    | _, _ => rots ts1 ts2 gs p)
noncomputable def pureOp (P : Program) (o : Oper) : Bool := match o.op with
  | .move _ => true | .assign _ => true | .pick _ _ _ => true | .build _ _ => true | .load _ _ => true | .nilCheck _ => true | .binOp _ _ _ _ _ => true | .unOp _ _ _ => true
  | .fieldAddr _ _ _ => true | .field _ _ _ => true | .indexAddr _ _ _ => true | .index _ _ _ => true | .lookup _ _ _ _ => true | .extract _ _ => true
  | .slice _ _ _ hi mx => (match mx with | some _ => hi.isSome | none => true)
  | .makeFunc f _ _ => (match f with | .func _ => true | _ => false)
  | .convert _ d _ => (match P.underlying d with | some (.slice _) => false | _ => true)
  | .call c => (match c.callee with | .builtin .len => true | .builtin .cap => true | .builtin .min => true | .builtin .max => true | _ => false)
  | _ => false
noncomputable def cOpD (P : Program) (N : Nat) (o : Oper) : OBox := match o.op with
  | .slice t x lo hi none => cSliceQ P N t x lo hi
  | _ => cOp P N o
noncomputable def gF (g : T3 → Option FV) (want : Bool) (f : OpT) : OpT := fun call ts h k => gdK g want ts (f call ts h k) (k (.tup []) h)
noncomputable def gB (N : Nat) (ops : Array Oper) (f : OpT) : Option (Nat × Bool) → OBox
  | none => .mk f
  | some (j, want) => (match ops[j]? with
      | some o => (match o.dst with
        | some d => (match cP N d with
          | .mk g _ => .mk (gF g want f)
          | .no => .mk opNo)
        | none => .mk opNo)
      | none => .mk opNo)
noncomputable def bits : List Nat → Nat
  | [] => 0
  | t :: r => 2 ^ t ||| bits r
noncomputable def bmOf (bms : List Nat) : List Edge → Nat
  | [] => 0
  | e :: r => bif Region.binds .any e then 2 ^ e.on ||| bms.getD e.on 0 ||| bmOf bms r else bmOf bms r
noncomputable def befsGo (acc : List Nat) : List Oper → List Nat
  | [] => acc
  | o :: r => befsGo (acc ++ [bmOf acc o.after.toList]) r
noncomputable def fixB (bms : List Nat) : List Oper → List Nat → Bool
  | [], y => (match y with | [] => true | _ => false)
  | o :: r, y => (match y with | [] => false | b :: y => Nat.beq (bmOf bms o.after.toList) b && fixB bms r y)
inductive DI where | mk (i dm lm am bm : Nat) (pu : Bool) (f : OpT) (s : Option FV → T3 → T3)
def DI.i : DI → Nat | .mk i _ _ _ _ _ _ _ => i
def DI.dm : DI → Nat | .mk _ a _ _ _ _ _ _ => a
def DI.lm : DI → Nat | .mk _ _ a _ _ _ _ _ => a
def DI.am : DI → Nat | .mk _ _ _ a _ _ _ _ => a
def DI.pu : DI → Bool | .mk _ _ _ _ _ a _ _ => a
noncomputable def aftM (o : Oper) : Nat := bits ((o.after.toList.filter fun e => Region.binds .any e).map (·.on))
noncomputable def mkDI (P : Program) (N : Nat) (ops : Array Oper) (bms : List Nat) : List Oper → Nat → Option (List DI)
  | [], _ => some []
  | o :: r, i => (match cD N o.dst with
    | .no => none
    | .mk s => (match (bif pureOp P o then cOpD P N o else cOp P N o) with
      | .mk f => (match gB N ops f o.guard with
        | .mk f' => (match mkDI P N ops bms r (i + 1) with
          | none => none
          | some l => some (.mk i (bits o.dst.toList) (bits (o.looksAt ops)) (aftM o) (bms.getD i 0) (pureOp P o) f' s :: l)))))
noncomputable def okD (L : Nat) (d : DI) : Bool := Nat.beq (Nat.land d.am L) d.am
noncomputable def freeD (d : DI) (rem : List DI) : Bool := rem.all fun x => Nat.beq x.i d.i || (Nat.testBit x.am d.i || (Nat.beq (Nat.land d.dm (Nat.lor x.lm x.dm)) 0 && Nat.beq (Nat.land x.dm d.lm) 0))
abbrev CK := FH → Ro → Ro
abbrev DT := CallT → T3 → FH → List CK → KR → Ro
inductive DBox where | mk (f : DT)
noncomputable def DBox.run (a : DBox) : DT := fun call ts h cs k => @DBox.rec (fun _ => Ro) (fun f => f call ts h cs k) a
noncomputable def recheck (bs : List Bool) (cs : List CK) (h : FH) (k : List CK → Ro) : Ro :=
  @List.rec Bool (fun _ => List CK → (List CK → Ro) → Ro) (fun _ k => k []) (fun b _ ih cs k => @List.rec CK (fun _ => Ro) (k []) (fun c cs _ => @Bool.rec (fun _ => Ro) (ih cs k) (c h (ih cs fun r => k (c :: r))) b) cs) bs cs k
theorem recheck_cons (b : Bool) (bs : List Bool) (c : CK) (cs : List CK) (h : FH) (k : List CK → Ro) : recheck (b :: bs) (c :: cs) h k = @Bool.rec (fun _ => Ro) (recheck bs cs h k) (c h (recheck bs cs h fun r => k (c :: r))) b := rfl
noncomputable def ckOf (f : OpT) (call : CallT) (ts : T3) (u : FV) : CK := fun h r => f call ts h fun u' _ => iff' (beqK u' u) r
noncomputable def dPure (f : OpT) (s : Option FV → T3 → T3) (rest : DBox) : DT := fun call ts h cs k => f call ts h fun u _ => rest.run call (s (some u) ts) h (ckOf f call ts u :: cs) k
noncomputable def dEff (f : OpT) (s : Option FV → T3 → T3) (keeps : List Bool) (rest : DBox) : DT := fun call ts h cs k => f call ts h fun u h' => recheck keeps cs h' fun cs' => rest.run call (s (some u) ts) h' cs' k
noncomputable def dNo : DT := fun _ _ _ _ _ => .no
noncomputable def isOk (r : Ro) : Bool := match r with | .ok _ _ => true | .no => false
noncomputable def kSt : KR := fun ts h => .ok (.tup []) ⟨.node 0 (.loop 0 none 0 ts [] .skip .skip) h.t .nil, h.next, h.ro⟩
noncomputable def kEq (N n : Nat) (gs : List (T3 → Option FV)) (ts1 : T3) (h1 : FH) : KR := fun ts2 h2 => match rots ts1 ts2 gs (fun x => x, fun x => x) with
  | (r, r') => iff' (eqvK N n r r' ts1 h1 ts2 h2) (.ok (.tup []) ⟨.nil, 0, 0⟩)
noncomputable def dGo (N : Nat) (gs : List (T3 → Option FV)) (r : List DT) (call : CallT) (ts : T3) (h : FH) (cs : List CK) (k : KR) (ts1 : T3) (h1 : FH) : Ro :=
  iff' (r.all fun g => isOk (g call ts h cs (kEq N h.next gs ts1 h1))) (k ts1 h1)
noncomputable def dMany (N : Nat) (gs : List (T3 → Option FV)) (l : List DT) : DT := fun call ts h cs k => match l with
  | [] => .no
  | f :: r => match f call ts h cs kSt with
    | .ok _ hw => (match hw with | ⟨.node _ (.loop _ _ _ ts1 _ _ _) t1 _, nx, ro⟩ => dGo N gs r call ts h cs k ts1 ⟨t1, nx, ro⟩ | _ => .no)
    | .no => .no
noncomputable def alo (o : Oper) : Bool := match o.op with
  | .alloc _ => true | .box _ _ => true | .buildSlice _ _ _ => true | .makeSlice _ _ _ => true | .makeMap _ _ => true
  | _ => false
noncomputable def aloN : List Oper → Nat → List Nat
  | [], _ => []
  | o :: r, i => bif alo o then i :: aloN r (i + 1) else aloN r (i + 1)
noncomputable def has (l : List Nat) (i : Nat) : Bool := l.any fun j => Nat.beq j i
noncomputable def getD (N : Nat) (d : DI) : List (T3 → Option FV) := match cP N (Nat.log2 d.dm) with | .mk g _ => [g] | .no => []
noncomputable def sortD (al : List Nat) (l : List DI) : List DI := l.filter (fun d => has al d.i) ++ l.filter (fun d => !has al d.i)
noncomputable def rmD (i : Nat) (rem : List DI) : List DI := rem.filter fun x => !Nat.beq x.i i
noncomputable def plan (N : Nat) (al : List Nat) : Nat → List DI → Nat → List Nat → DBox
  | 0, rem, _, _ => (match rem with | [] => .mk fun _ ts h _ k => k ts h | _ => .mk dNo)
  | n + 1, rem, L, ws => (match rem with
    | [] => .mk fun _ ts h _ k => k ts h
    | _ => (match (rem.filter (okD L)).find? DI.pu with
      | some (.mk i dm lm am bm pu f s) => (bif freeD (.mk i dm lm am bm pu f s) rem then .mk (dPure f s (plan N al n (rmD i rem) (Nat.lor L (2 ^ i)) (i :: ws))) else .mk dNo)
      | none => (match rem.filter (okD L) with
        | [.mk i _ _ _ bm _ f s] => .mk (dEff f s (ws.map fun m => !Nat.testBit bm m) (plan N al n (rmD i rem) (Nat.lor L (2 ^ i)) (ws.filter fun m => !Nat.testBit bm m)))
        | [] => .mk dNo
        | l => .mk (dMany N ((l.filter fun d => has al d.i).flatMap (getD N)) ((sortD al l).map fun d => match d with | .mk i _ _ _ bm _ f s => dEff f s (ws.map fun m => !Nat.testBit bm m) (plan N al n (rmD i rem) (Nat.lor L (2 ^ i)) (ws.filter fun m => !Nat.testBit bm m)))))))
noncomputable def noSD (ops : List Oper) : Bool := ops.all fun o => match o.op with | .select _ _ => false | .defer _ => false | _ => true
noncomputable def cDraw (P : Program) (N : Nat) (ops : Array Oper) : CBox :=
  bif P.follows .mixedOrders && (noSD ops.toList && fixB (befsGo [] ops.toList) ops.toList (befsGo [] ops.toList)) then
    (match mkDI P N ops (befsGo [] ops.toList) ops.toList 0 with
    | some l => (match plan N (aloN ops.toList 0) ops.toList.length l 0 [] with
      | .mk q => .mk fun call _ ts h ms k => q call ts h [] fun ts' h' => k .normal ts' h' ms)
    | none => .mk fun _ _ _ _ _ _ => .no)
  else .mk fun _ _ _ _ _ _ => .no
noncomputable def cC (P : Program) (lf N : Nat) : Code → CBox
  | .skip => .mk fun _ _ ts h ms k => k .normal ts h ms
  | .label _ => .mk fun _ _ ts h ms k => k .normal ts h ms
  | .exit id => .mk fun _ _ ts h ms k => k (.exit id) ts h ms
  | .ret => .mk fun _ _ ts h ms k => k .ret ts h ms
  | .seq a b => .mk (cSeq (cC P lf N a) (cC P lf N b))
  | .cond c a b => .mk (cCond (cO N c) (cC P lf N a) (cC P lf N b))
  | .block id a => .mk (cBlock id (cC P lf N a))
  | .loop a => .mk (loopN (cC P lf N a) lf)
  | .scope a => cC P lf N a
  | .region _ ops draw => (match draw with | false => cReg P N ops | true => cDraw P N ops)
  | .rangeFunc f ps a b => .mk (cRange N (cO N f) ps.toList a b)
  | _ => .mk fun _ _ _ _ _ _ => .no
/-! ### functions -/
noncomputable def setA (N : Nat) (l : List FV) : Nat → T3 → (T3 → Ro) → Ro :=
  @List.rec FV (fun _ => Nat → T3 → (T3 → Ro) → Ro) (fun _ ts k => k ts) (fun v _ ih i ts k => @PB.rec (fun _ => Ro) (fun _ s => ih (Nat.succ i) (s (some v) ts) k) .no (cP N i)) l
noncomputable def resV (P : Program) (N : Nat) (ts : T3) (h : FH) (rs : List ResultVar) (k : List FV → Ro) : Ro :=
  @List.rec ResultVar (fun _ => (List FV → Ro) → Ro) (fun k => k []) (fun x _ ih k => @ResultVar.rec (fun _ => Ro)
    (fun t => (cO N (.tmp t)).ev ts fun v => ih fun l => k (v :: l))
    (fun a t => (cO N (.tmp a)).ev ts fun p => opt (sizeT P t) fun n => opt (aggT P t) fun b => fLoad b n p h fun v _ => ih fun l => k (v :: l)) x) rs k
inductive FBox where | mk (f : CT) (N : Nat) (rs : List ResultVar) | no
noncomputable def cF (P : Program) (lf : Nat) (f : FuncId) : FBox := match P.funcs[f]? with
  | some fn => (match fn.body with
    | some c => (match cC P lf fn.ntmps c with | .mk g => .mk g fn.ntmps fn.results.toList)
    | none => .no)
  | none => .no
noncomputable def endM (call : CallT) (ms : List Mk) : FH → (FH → Ro) → Ro :=
  @List.rec Mk (fun _ => FH → (FH → Ro) → Ro) (fun h k => k h) (fun x _ ih h k => @Mk.rec (fun _ => Ro) (fun i => match h.get i with
    | some .mark => iff' (Nat.ble h.ro i) (ih (h.put i .dead) k)
    | _ => .no) (fun f args cap => call (.df f) (args ++ cap) h fun _ h' => ih h' k) x) ms
noncomputable def resK (P : Program) (N : Nat) (rs : List ResultVar) (ts : T3) (k : KV) (h : FH) : Ro := resV P N ts h rs fun l =>
  @List.rec FV (fun _ => Ro) (k (.tup []) h) (fun v r _ => @List.rec FV (fun _ => Ro) (k v h) (fun _ _ _ => k (.tup l) h) r) l
noncomputable def retF (P : Program) (N : Nat) (rs : List ResultVar) (call : CallT) (k : KV) : KC := fun e ts h ms => @Ex.rec (fun _ => Ro) (endM call ms h (resK P N rs ts k)) (fun _ => .no) (endM call ms h (resK P N rs ts k)) e
noncomputable def retD (P : Program) (N : Nat) (rs : List ResultVar) (k : KV) : KC := fun e ts h ms => match e with
    | .exit _ => .no
    | _ => (match ms with | [] => resK P N rs ts k h | _ => .no)
noncomputable def jumpOf : Ex → Option Jump
  | .normal => none
  | .ret => some .ret
  | .exit id => some (.exit id)
noncomputable def setPs (N : Nat) : List Tmp → List FV → T3 → Option T3
  | [], vs, ts => match vs with | [] => some ts | _ => none
  | p :: ps, vs, ts => match vs with
    | [] => none
    | v :: vs => match cP N p with | .mk _ s => setPs N ps vs (s (some v) ts) | .no => none
noncomputable def yieldE (P : Program) (lf : Nat) (call : CallT) (l : Nat) (args : List FV) (h : FH) (k : KV) : Ro := match h.get l with
  | some (.loop _ _ N t0 ps assign body) => iff' (Nat.ble h.ro l) <| opt (setPs N ps args t0) fun ts' => (cC P lf N assign).run call (some l) ts' h [] fun e ts h1 ms1 => match e with
    | .normal => (match h1.get l with
      | some (.loop st pend N1 t1 ps1 as1 bo1) => iff' (Nat.beq st 0) ((cC P lf N body).run call (some l) ts (h1.put l (.loop 1 pend N1 t1 ps1 as1 bo1)) ms1 fun e _ h2 _ => match h2.get l with
            | some (.loop _ _ N2 t2 ps2 as2 bo2) => (match jumpOf e with
              | none => k (.bool true) (h2.put l (.loop 0 none N2 t2 ps2 as2 bo2))
              | some j => k (.bool false) (h2.put l (.loop 2 (some j) N2 t2 ps2 as2 bo2)))
            | _ => .no)
      | _ => .no)
    | _ => .no
  | _ => .no
abbrev Sums := FuncId → Option HL
noncomputable def runF (P : Program) (lf : Nat) (call : CallT) (f : FuncId) (args : List FV) (h : FH) (k : KV) : Ro :=
  @FBox.rec (fun _ => Ro) (fun g N rs => setA N args 0 z3 fun ts => g call none ts h [] (retF P N rs call k)) .no (cF P lf f)
noncomputable def runD (P : Program) (lf : Nat) (call : CallT) (f : FuncId) (args : List FV) (h : FH) (k : KV) : Ro :=
  @FBox.rec (fun _ => Ro) (fun g N rs => setA N args 0 z3 fun ts => g call none ts h [] (retD P N rs k)) .no (cF P lf f)
noncomputable def evF (P : Program) (sums : Sums) (lf : Nat) (n : Nat) : CallT := @Nat.rec (fun _ => CallT) (fun _ _ _ _ => .no)
  (fun _ ih c args h k => @Cal.rec (fun _ => Ro) (fun f => iff' (okF P f) (@Option.rec HL (fun _ => Ro) (runF P lf ih f args h k) (fun s => s args h k) (sums f))) (fun l => yieldE P lf ih l args h k) (fun f => iff' (okF P f) (runD P lf ih f args h k)) c) n
noncomputable def h0 : FH := ⟨.nil, 0, 0⟩
noncomputable def noSums : Sums := fun _ => none
end Go.Ev

/-  -/
set_option linter.unusedVariables false
namespace Go.Ev
open Go.RowKit
/-! ### trees with keys -/
section
variable {α : Type}
theorem KT.get_nil (c k : Nat) : (KT.nil : KT α).get c k = none := rfl
theorem KT.get_zero (k : Nat) (v : α) (l r : KT α) (key : Nat) : (KT.node k v l r).get 0 key = if k = key then some v else none := by
  show (@Bool.rec (fun _ => Option α) none (some v) (Nat.beq k key)) = _
  by_cases h : k = key
  · rw [if_pos h, h]; have : Nat.beq key key = true := Nat.beq_refl key; rw [this]
  · rw [if_neg h]
    cases hb : Nat.beq k key
    · rfl
    · exact absurd (Nat.eq_of_beq_eq_true hb) h
theorem KT.get_succ (k : Nat) (v : α) (l r : KT α) (c key : Nat) : (KT.node k v l r).get (c + 1) key = if c % 2 = 0 then l.get (c / 2) key else r.get (c / 2) key := by
  show (@Nat.rec (fun _ => Option α) (l.get (c / 2) key) (fun _ _ => r.get (c / 2) key) (c % 2)) = _
  cases h : c % 2 with
  | zero => rw [if_pos rfl]; rfl
  | succ n => rw [if_neg (by omega)]
theorem KT.set_zero (k : Nat) (v : α) (l r : KT α) (key : Nat) (x : α) : (KT.node k v l r).set 0 key x = .node key x l r := rfl
theorem KT.set_succ (k : Nat) (v : α) (l r : KT α) (c key : Nat) (x : α) : (KT.node k v l r).set (c + 1) key x = if c % 2 = 0 then .node k v (l.set (c / 2) key x) r else .node k v l (r.set (c / 2) key x) := by
  show (@Nat.rec (fun _ => KT α) (.node k v (l.set (c / 2) key x) r) (fun _ _ => .node k v l (r.set (c / 2) key x)) (c % 2)) = _
  cases h : c % 2 with
  | zero => rw [if_pos rfl]; rfl
  | succ n => rw [if_neg (by omega)]
theorem KT.get_set' (t : KT α) : ∀ (c key : Nat) (x : α) (c' key' : Nat) (v : α), (t.set c key x).get c' key' = some v →
    (key' = key ∧ (c' = c → v = x)) ∨ (key' ≠ key ∧ t.get c' key' = some v) := by
  induction t with
  | nil =>
    intro c key x c' key' v h
    have h' : (KT.node key x .nil .nil : KT α).get c' key' = some v := h
    cases c' with
    | zero =>
      rw [KT.get_zero] at h'
      by_cases hk : key = key'
      · rw [if_pos hk] at h'; exact .inl ⟨hk.symm, fun _ => (Option.some.inj h').symm⟩
      · rw [if_neg hk] at h'; cases h'
    | succ c' => rw [KT.get_succ] at h'; simp [KT.get_nil] at h'
  | node k u l r ihl ihr =>
    intro c key x c' key' v h
    cases c with
    | zero =>
      rw [KT.set_zero] at h
      cases c' with
      | zero =>
        rw [KT.get_zero] at h
        by_cases hk : key = key'
        · rw [if_pos hk] at h; exact .inl ⟨hk.symm, fun _ => (Option.some.inj h).symm⟩
        · rw [if_neg hk] at h; cases h
      | succ c' =>
        rw [KT.get_succ] at h
        by_cases hk : key' = key
        · exact .inl ⟨hk, fun e => by omega⟩
        · exact .inr ⟨hk, by rw [KT.get_succ]; exact h⟩
    | succ c =>
      rw [KT.set_succ] at h
      cases c' with
      | zero =>
        have h2 : (KT.node k u l r).get 0 key' = some v := by
          rw [KT.get_zero]; split at h <;> rw [KT.get_zero] at h <;> exact h
        by_cases hk : key' = key
        · exact .inl ⟨hk, fun e => by omega⟩
        · exact .inr ⟨hk, h2⟩
      | succ c' =>
        by_cases hp : c % 2 = 0
        · rw [if_pos hp, KT.get_succ] at h
          by_cases hq : c' % 2 = 0
          · rw [if_pos hq] at h
            rcases ihl _ _ _ _ _ _ h with ⟨a, b⟩ | ⟨a, b⟩
            · exact .inl ⟨a, fun e => b (by have : c' = c := by omega
                                            rw [this])⟩
            · exact .inr ⟨a, by rw [KT.get_succ, if_pos hq]; exact b⟩
          · rw [if_neg hq] at h
            by_cases hk : key' = key
            · exact .inl ⟨hk, fun e => by have : c' = c := by omega
                                          exact absurd hp (this ▸ hq)⟩
            · exact .inr ⟨hk, by rw [KT.get_succ, if_neg hq]; exact h⟩
        · rw [if_neg hp, KT.get_succ] at h
          by_cases hq : c' % 2 = 0
          · rw [if_pos hq] at h
            by_cases hk : key' = key
            · exact .inl ⟨hk, fun e => by have : c' = c := by omega
                                          exact absurd (this ▸ hq) hp⟩
            · exact .inr ⟨hk, by rw [KT.get_succ, if_pos hq]; exact h⟩
          · rw [if_neg hq] at h
            rcases ihr _ _ _ _ _ _ h with ⟨a, b⟩ | ⟨a, b⟩
            · exact .inl ⟨a, fun e => b (by have : c' = c := by omega
                                            rw [this])⟩
            · exact .inr ⟨a, by rw [KT.get_succ, if_neg hq]; exact b⟩
theorem KT.get_set {t : KT α} {i j : Nat} {x v : α} (h : (t.set i i x).get j j = some v) : (j = i ∧ v = x) ∨ (j ≠ i ∧ t.get j j = some v) := by
  rcases KT.get_set' t _ _ _ _ _ _ h with ⟨a, b⟩ | h
  · exact .inl ⟨a, b a⟩
  · exact .inr h
theorem KT.get_fill (l : List α) : ∀ (i : Nat) (t : KT α) (j : Nat) (v : α), (KT.fill l i t).get j j = some v → (i ≤ j ∧ l[j - i]? = some v) ∨ t.get j j = some v := by
  induction l with
  | nil => exact fun i t j v h => .inr h
  | cons x l ih =>
    intro i t j v h
    have h' : (KT.fill l (i + 1) (t.set i i x)).get j j = some v := h
    rcases ih _ _ _ _ h' with ⟨a, b⟩ | b
    · refine .inl ⟨by omega, ?_⟩
      have : j - i = (j - (i + 1)) + 1 := by omega
      rw [this]; simpa using b
    · rcases KT.get_set b with ⟨a, b1⟩ | ⟨a, b⟩
      · subst a; subst b1; exact .inl ⟨Nat.le_refl _, by simp⟩
      · exact .inr b
end
/-! ### temporaries -/
def B1.g : B1 → T1 → Option FV | .mk g _ => g
def B1.s : B1 → Option FV → T1 → T1 | .mk _ s => s
def B2.g : B2 → T2 → T1 | .mk g _ => g
def B2.s : B2 → (T1 → T1) → T2 → T2 | .mk _ s => s
def B3.g : B3 → T3 → T2 | .mk g _ => g
def B3.s : B3 → (T2 → T2) → T3 → T3 | .mk _ s => s
theorem b1_same (p : D6) (x : Option FV) (t : T1) : (b1 p).g ((b1 p).s x t) = x := by cases t; cases p <;> rfl
theorem b1_other {p q : D6} (h : p ≠ q) (x : Option FV) (t : T1) : (b1 p).g ((b1 q).s x t) = (b1 p).g t := by cases t; cases p <;> cases q <;> first | rfl | exact absurd rfl h
theorem b2_same (p : D6) (u : T1 → T1) (t : T2) : (b2 p).g ((b2 p).s u t) = u ((b2 p).g t) := by cases t; cases p <;> rfl
theorem b2_other {p q : D6} (h : p ≠ q) (u : T1 → T1) (t : T2) : (b2 p).g ((b2 q).s u t) = (b2 p).g t := by cases t; cases p <;> cases q <;> first | rfl | exact absurd rfl h
theorem b3_same (p : D6) (u : T2 → T2) (t : T3) : (b3 p).g ((b3 p).s u t) = u ((b3 p).g t) := by cases t; cases p <;> rfl
theorem b3_other {p q : D6} (h : p ≠ q) (u : T2 → T2) (t : T3) : (b3 p).g ((b3 q).s u t) = (b3 p).g t := by cases t; cases p <;> cases q <;> first | rfl | exact absurd rfl h
noncomputable def getP (t : Nat) (ts : T3) : Option FV := (b1 (dig (t % 6))).g ((b2 (dig (t / 6 % 6))).g ((b3 (dig (t / 36))).g ts))
noncomputable def setP (t : Nat) (v : Option FV) (ts : T3) : T3 := (b3 (dig (t / 36))).s ((b2 (dig (t / 6 % 6))).s ((b1 (dig (t % 6))).s v)) ts
theorem dig_inj {a b : Nat} (ha : a < 6) (hb : b < 6) (h : dig a = dig b) : a = b := by
  have : ∀ a, a < 6 → ∀ b, b < 6 → dig a = dig b → a = b := by
    intro a ha b hb
    rcases a with _ | _ | _ | _ | _ | _ | a <;> rcases b with _ | _ | _ | _ | _ | _ | b <;> simp [dig] <;> omega
  exact this a ha b hb h
theorem getP_same (t : Nat) (v : Option FV) (ts : T3) : getP t (setP t v ts) = v := by
  unfold getP setP; rw [b3_same, b2_same, b1_same]
theorem getP_other {t d : Nat} (ht : t ≤ 215) (hd : d ≤ 215) (h : t ≠ d) (v : Option FV) (ts : T3) : getP t (setP d v ts) = getP t ts := by
  unfold getP setP
  by_cases h3 : dig (t / 36) = dig (d / 36)
  · have e3 := dig_inj (by omega) (by omega) h3
    rw [h3, b3_same]
    by_cases h2 : dig (t / 6 % 6) = dig (d / 6 % 6)
    · have e2 := dig_inj (by omega) (by omega) h2
      rw [h2, b2_same]
      by_cases h1 : dig (t % 6) = dig (d % 6)
      · have e1 := dig_inj (by omega) (by omega) h1
        exact absurd (by omega) h
      · rw [b1_other h1]
    · rw [b2_other h2]
  · rw [b3_other h3]
theorem cP_eq (N t : Nat) : cP N t = if t + 1 ≤ N ∧ t ≤ 215 then .mk (getP t) (setP t) else .no := by
  unfold cP
  by_cases h : t + 1 ≤ N ∧ t ≤ 215
  · rw [if_pos h]
    have h1 : (Nat.ble (t + 1) N && Nat.ble t 215) = true := by
      rw [Nat.ble_eq_true_of_le h.1, Nat.ble_eq_true_of_le h.2]; rfl
    rw [h1]
    show (match b3 (dig (t / 36)), b2 (dig (t / 6 % 6)), b1 (dig (t % 6)) with
      | .mk g3 s3, .mk g2 s2, .mk g1 s1 => PB.mk (fun t => g1 (g2 (g3 t))) (fun v t => s3 (s2 (s1 v)) t)) = _
    have e : PB.mk (getP t) (setP t) = PB.mk (fun x => (b1 (dig (t % 6))).g ((b2 (dig (t / 6 % 6))).g ((b3 (dig (t / 36))).g x))) (fun v x => (b3 (dig (t / 36))).s ((b2 (dig (t / 6 % 6))).s ((b1 (dig (t % 6))).s v)) x) := rfl
    rw [e]
    cases b3 (dig (t / 36)); cases b2 (dig (t / 6 % 6)); cases b1 (dig (t % 6))
    rfl
  · rw [if_neg h]
    have h1 : (Nat.ble (t + 1) N && Nat.ble t 215) = false := by
      cases e1 : Nat.ble (t + 1) N
      · rfl
      · cases e2 : Nat.ble t 215
        · rfl
        · exact absurd ⟨Nat.le_of_ble_eq_true e1, Nat.le_of_ble_eq_true e2⟩ h
    rw [h1]; rfl
/-! ### values -/
structure Ren where
  blk : Nat → Nat
  base : Nat → Nat
  cap : Nat → Nat
  emp : Nat → Addr × Nat
def empA (σ : Ren) (i o c q s : Nat) : Addr × Nat := (if σ.cap i - c = q then ⟨σ.blk i, σ.base i + o, none⟩ else (⟨σ.blk i, σ.base i + o, none⟩ : Addr).add (q * s), σ.cap i - c - q)
def bytesOf (l : List Nat) : ByteArray := ⟨(l.map Nat.toUInt8).toArray⟩
mutual
def val (σ : Ren) : FV → Value
  | .int k n => .int k n
  | .bool b => .bool b
  | .str s => .string (bytesOf s)
  | .ptr i off => .pointer (some ⟨σ.blk i, σ.base i + off, none⟩)
  | .slice i off len cx cap => .slice (some ⟨σ.blk i, σ.base i + off, none⟩) len (if cx then cap else σ.cap i - cap)
  | .nilp => .pointer none
  | .nils => .slice none 0 0
  | .emp i o c q s => .slice (some (empA σ i o c q s).1) 0 (empA σ i o c q s).2
  | .map i => .map (some (σ.blk i))
  | .nilm => .map none
  | .fn f a b => .func (.func f) (vals σ a).toArray (vals σ b).toArray
  | .yl i => .func (.yield (σ.blk i)) #[] #[]
  | .nilf => .nilFunc
  | .agg cs => .agg (vals σ cs).toArray
  | .tup vs => .tuple (vals σ vs).toArray
def vals (σ : Ren) : List FV → List Value
  | [] => []
  | v :: l => val σ v :: vals σ l
end
theorem vals_eq (σ : Ren) (l : List FV) : vals σ l = l.map (val σ) := by
  induction l with
  | nil => rfl
  | cons v l ih => simp [vals, ih]
mutual
def FV.ok (n : Nat) : FV → Prop
  | .str s => ∀ b ∈ s, b < 256
  | .ptr i _ => i < n
  | .slice i _ _ _ _ => i < n
  | .emp i _ _ _ _ => i < n
  | .map i => i < n
  | .fn _ a b => oks n a ∧ oks n b
  | .yl i => i < n
  | .agg cs => oks n cs ∧ cs.all FV.flat = true
  | .tup vs => oks n vs
  | _ => True
def oks (n : Nat) : List FV → Prop
  | [] => True
  | v :: l => v.ok n ∧ oks n l
end
theorem oks_iff {n : Nat} {l : List FV} : oks n l ↔ ∀ v ∈ l, v.ok n := by
  induction l with
  | nil => simp [oks]
  | cons v l ih => simp [oks, ih]
structure Ext (n : Nat) (σ σ' : Ren) : Prop where
  blk : ∀ i, i < n → σ'.blk i = σ.blk i
  base : ∀ i, i < n → σ'.base i = σ.base i
  cap : ∀ i, i < n → σ'.cap i = σ.cap i
  emp : ∀ i, i < n → σ'.emp i = σ.emp i
theorem Ext.refl (n : Nat) (σ : Ren) : Ext n σ σ := ⟨fun _ _ => rfl, fun _ _ => rfl, fun _ _ => rfl, fun _ _ => rfl⟩
theorem Ext.trans {n m : Nat} {a b c : Ren} (h : Ext n a b) (k : Ext m b c) (hm : n ≤ m) : Ext n a c :=
  ⟨fun i hi => (k.blk i (by omega)).trans (h.blk i hi), fun i hi => (k.base i (by omega)).trans (h.base i hi), fun i hi => (k.cap i (by omega)).trans (h.cap i hi), fun i hi => (k.emp i (by omega)).trans (h.emp i hi)⟩
theorem Ext.mono {n m : Nat} {a b : Ren} (h : Ext n a b) (hm : m ≤ n) : Ext m a b :=
  ⟨fun i hi => h.blk i (by omega), fun i hi => h.base i (by omega), fun i hi => h.cap i (by omega), fun i hi => h.emp i (by omega)⟩
mutual
theorem val_ext {n : Nat} {σ σ' : Ren} (he : Ext n σ σ') : ∀ (v : FV), v.ok n → val σ' v = val σ v
  | .int _ _, _ | .bool _, _ | .str _, _ | .nilp, _ | .nils, _ | .nilm, _ | .nilf, _ => rfl
  | .ptr i off, h => by simp only [FV.ok] at h; simp only [val, he.blk i h, he.base i h]
  | .slice i off len cx cap, h => by simp only [FV.ok] at h; simp only [val, he.blk i h, he.base i h, he.cap i h]
  | .emp i o c q s, h => by simp only [FV.ok] at h; simp only [val, empA, he.blk i h, he.base i h, he.cap i h]
  | .map i, h => by simp only [FV.ok] at h; simp only [val, he.blk i h]
  | .yl i, h => by simp only [FV.ok] at h; simp only [val, he.blk i h]
  | .fn f a b, h => by simp only [FV.ok] at h; simp only [val, vals_ext he a h.1, vals_ext he b h.2]
  | .agg cs, h => by simp only [FV.ok] at h; simp only [val, vals_ext he cs h.1]
  | .tup vs, h => by simp only [FV.ok] at h; simp only [val, vals_ext he vs h]
theorem vals_ext {n : Nat} {σ σ' : Ren} (he : Ext n σ σ') : ∀ (l : List FV), oks n l → vals σ' l = vals σ l
  | [], _ => rfl
  | v :: l, h => by simp only [oks] at h; simp only [vals, val_ext he v h.1, vals_ext he l h.2]
end
mutual
theorem ok_mono {n m : Nat} (hm : n ≤ m) : ∀ (v : FV), v.ok n → v.ok m
  | .str _, h => by simp only [FV.ok] at h ⊢; exact h
  | .int _ _, _ | .bool _, _ | .nilp, _ | .nils, _ | .nilm, _ | .nilf, _ => by simp only [FV.ok]
  | .ptr i off, h => by simp only [FV.ok] at h ⊢; omega
  | .slice i off len cx cap, h => by simp only [FV.ok] at h ⊢; omega
  | .emp i o c q s, h => by simp only [FV.ok] at h ⊢; omega
  | .map i, h => by simp only [FV.ok] at h ⊢; omega
  | .yl i, h => by simp only [FV.ok] at h ⊢; omega
  | .fn f a b, h => by simp only [FV.ok] at h ⊢; exact ⟨oks_mono hm a h.1, oks_mono hm b h.2⟩
  | .agg cs, h => by simp only [FV.ok] at h ⊢; exact ⟨oks_mono hm cs h.1, h.2⟩
  | .tup vs, h => by simp only [FV.ok] at h ⊢; exact oks_mono hm vs h
theorem oks_mono {n m : Nat} (hm : n ≤ m) : ∀ (l : List FV), oks n l → oks m l
  | [], _ => by simp only [oks]
  | v :: l, h => by simp only [oks] at h ⊢; exact ⟨ok_mono hm v h.1, oks_mono hm l h.2⟩
end
theorem val_cells (σ : Ren) (v : FV) : (val σ v).cells = (v.cells.map (val σ)).toArray := by
  cases v <;> simp [val, Value.cells, FV.cells, vals_eq]
theorem flat_oneCell {σ : Ren} {v : FV} (h : v.flat = true) : (val σ v).oneCell' = true := by
  cases v <;> simp [FV.flat] at h <;> rfl
theorem cells_ok {n : Nat} {v : FV} (h : v.ok n) (hc : v.cell = true) : ∀ u ∈ v.cells, u.ok n ∧ u.flat = true := by
  intro u hu
  cases v <;> simp only [FV.cells, List.mem_singleton] at hu
  case agg cs =>
    simp only [FV.ok, List.all_eq_true] at h
    exact ⟨oks_iff.1 h.1 u hu, h.2 u hu⟩
  case tup => simp [FV.cell] at hc
  all_goals (subst hu; exact ⟨h, rfl⟩)
/-! ### constants -/
mutual
theorem cv_val {n : Nat} (σ : Ren) : ∀ (V : Value) (v : FV), cv V = some v → val σ v = V ∧ v.ok n
  | .bool b, v, h => by simp only [cv, Option.some.injEq] at h; subst h; exact ⟨rfl, by simp only [FV.ok]⟩
  | .int k m, v, h => by simp only [cv, Option.some.injEq] at h; subst h; exact ⟨rfl, by simp only [FV.ok]⟩
  | .string s, v, h => by
    simp only [cv, Option.some.injEq] at h; subst h
    refine ⟨?_, by simp only [FV.ok, List.mem_map]; rintro b ⟨x, _, rfl⟩; exact x.toNat_lt⟩
    simp only [val, bytesOf, List.map_map]
    have : (Nat.toUInt8 ∘ fun x : UInt8 => x.toNat) = id := by funext x; simp
    rw [this]; simp
  | .pointer none, v, h => by simp only [cv, Option.some.injEq] at h; subst h; exact ⟨rfl, by simp only [FV.ok]⟩
  | .slice none a b, v, h => by
    cases a <;> cases b <;> simp only [cv, Option.some.injEq, reduceCtorEq] at h
    subst h; exact ⟨rfl, by simp only [FV.ok]⟩
  | .map none, v, h => by simp only [cv, Option.some.injEq] at h; subst h; exact ⟨rfl, by simp only [FV.ok]⟩
  | .nilFunc, v, h => by simp only [cv, Option.some.injEq] at h; subst h; exact ⟨rfl, by simp only [FV.ok]⟩
  | .agg ⟨cs⟩, v, h => by
    simp only [cv] at h
    cases hc : cvs cs with
    | none => rw [hc] at h; simp at h
    | some l =>
      rw [hc] at h
      have := cvs_val (n := n) σ cs l hc
      dsimp only at h
      cases hf : l.all FV.flat with
      | false => rw [hf] at h; simp at h
      | true =>
        rw [hf] at h; simp only [cond_true, Option.some.injEq] at h; subst h
        exact ⟨by simp only [val, this.1], by simp only [FV.ok]; exact ⟨this.2, hf⟩⟩
  | .tuple ⟨cs⟩, v, h => by
    simp only [cv] at h
    cases hc : cvs cs with
    | none => rw [hc] at h; simp at h
    | some l =>
      rw [hc] at h; simp only [Option.map_some, Option.some.injEq] at h; subst h
      have := cvs_val (n := n) σ cs l hc
      exact ⟨by simp only [val, this.1], by simp only [FV.ok]; exact this.2⟩
  | .float _ _, v, h => by simp [cv] at h
  | .complex _ _ _, v, h => by simp [cv] at h
  | .pointer (some _), v, h => by simp [cv] at h
  | .slice (some _) _ _, v, h => by simp [cv] at h
  | .map (some _), v, h => by simp [cv] at h
  | .chan _, v, h => by simp [cv] at h
  | .func _ _ _, v, h => by simp [cv] at h
  | .iface _ _, v, h => by simp [cv] at h
  | .nilIface, v, h => by simp [cv] at h
theorem cvs_val {n : Nat} (σ : Ren) : ∀ (l : List Value) (r : List FV), cvs l = some r → vals σ r = l ∧ oks n r
  | [], r, h => by simp only [cvs, Option.some.injEq] at h; subst h; exact ⟨rfl, by simp only [oks]⟩
  | V :: l, r, h => by
    simp only [cvs] at h
    cases hv : cv V with
    | none => rw [hv] at h; simp at h
    | some v =>
      rw [hv] at h
      cases hl : cvs l with
      | none => rw [hl] at h; simp at h
      | some r' =>
        rw [hl] at h; simp only [Option.map_some, Option.some.injEq] at h; subst h
        have h1 := cv_val (n := n) σ V v hv; have h2 := cvs_val (n := n) σ l r' hl
        exact ⟨by simp only [vals, h1.1, h2.1], by simp only [oks]; exact ⟨h1.2, h2.2⟩⟩
end
end Go.Ev

/-  -/
set_option linter.unusedVariables false
namespace Go.Ev
open Go.RowKit
/-! ### the heap -/
theorem FH.get_put {h : FH} {i j : Nat} {b b' : Blk} (hh : (h.put i b).get j = some b') : (j = i ∧ b' = b) ∨ (j ≠ i ∧ h.get j = some b') := KT.get_set hh
theorem FH.get_new {h : FH} {j : Nat} {b b' : Blk} (hh : (h.new b).get j = some b') : (j = h.next ∧ b' = b) ∨ (j ≠ h.next ∧ h.get j = some b') := KT.get_set hh
@[simp] theorem FH.put_next (h : FH) (i : Nat) (b : Blk) : (h.put i b).next = h.next := rfl
@[simp] theorem FH.put_ro (h : FH) (i : Nat) (b : Blk) : (h.put i b).ro = h.ro := rfl
@[simp] theorem FH.new_next (h : FH) (b : Blk) : (h.new b).next = h.next + 1 := rfl
@[simp] theorem FH.new_ro (h : FH) (b : Blk) : (h.new b).ro = h.ro := rfl
def stOf : Nat → LoopState | 0 => .ready | 1 => .busy | _ => .done
def jc : Jump → Code | .ret => .ret | .exit id => .exit id
def mE (σ : Ren) (e : FV × FV × Nat) : MapEntry := { key := val σ e.1, val := val σ e.2.1, born := e.2.2 }
def TR (σ : Ren) (n N : Nat) (ts : T3) (tmps : Array Value) : Prop :=
  tmps.size = N ∧ ∀ t v, t + 1 ≤ N → t ≤ 215 → getP t ts = some v → tmps[t]? = some (val σ v) ∧ v.ok n
theorem TR.ext {σ σ' : Ren} {n n' N : Nat} {ts : T3} {tmps : Array Value} (h : TR σ n N ts tmps) (he : Ext n σ σ') (hn : n ≤ n') : TR σ' n' N ts tmps :=
  ⟨h.1, fun t v h1 h2 h3 => by obtain ⟨a, b⟩ := h.2 t v h1 h2 h3; exact ⟨by rw [val_ext he v b]; exact a, ok_mono hn v b⟩⟩
def BO (P : Program) (σ : Ren) (n i : Nat) (o : Obj) : Blk → Prop
  | .cells t g m cs => ∃ c fr, o = .cells c t fr ∧ σ.base i + m ≤ c.size ∧ (g ≤ 1 → fr = (0, 0)) ∧
      (g = 1 → m ≤ σ.cap i * P.cellsOf t ∧ σ.base i + σ.cap i * P.cellsOf t ≤ c.size) ∧
      ∀ j v, j < m → cs.get j j = some v → c[σ.base i + j]? = some (val σ v) ∧ v.ok n ∧ v.flat = true
  | .map es ck => o = .map (es.map (mE σ)).toArray ck ∧ ∀ e ∈ es, e.1.ok n ∧ e.2.1.ok n
  | .loop st pend N ts ps a b => ∃ L : Loop, o = .loop L ∧ L.state = stOf st ∧ L.pending = pend.map jc ∧ L.params = ps.toArray ∧ L.assign = a ∧ L.body = b ∧ TR σ n N ts L.tmps
  | .siter s pos => ∃ pre, o = .stringIter (bytesOf (pre ++ s)) pos ∧ pre.length = pos ∧ σ.base i = 0 ∧ ∀ b ∈ pre ++ s, b < 256
  | .mark => o = .deferred (some [])
  | .dead => True
theorem BO.ext {P : Program} {σ σ' : Ren} {n n' i : Nat} {o : Obj} {b : Blk} (h : BO P σ n i o b) (he : Ext n σ σ') (hi : i < n) (hn : n ≤ n') : BO P σ' n' i o b := by
  cases b with
  | cells t g m cs =>
    obtain ⟨c, fr, h1, h2, h3, h4, h5⟩ := h
    refine ⟨c, fr, h1, by rw [he.base i hi]; exact h2, h3, fun hg => by rw [he.base i hi, he.cap i hi]; exact h4 hg, fun j v hj hv => ?_⟩
    obtain ⟨a, b, f⟩ := h5 j v hj hv
    exact ⟨by rw [he.base i hi, val_ext he v b]; exact a, ok_mono hn v b, f⟩
  | map es ck =>
    obtain ⟨h1, h2⟩ := h
    refine ⟨?_, fun e he' => ⟨ok_mono hn _ (h2 e he').1, ok_mono hn _ (h2 e he').2⟩⟩
    rw [h1]
    have : es.map (mE σ) = es.map (mE σ') := List.map_congr_left fun e hm => by simp only [mE, val_ext he _ (h2 e hm).1, val_ext he _ (h2 e hm).2]
    rw [this]
  | loop st pend N ts ps a b =>
    obtain ⟨L, h1, h2, h3, h4, h5, h6, h7⟩ := h
    exact ⟨L, h1, h2, h3, h4, h5, h6, h7.ext he hn⟩
  | siter s pos =>
    obtain ⟨pre, h1, h2, h3, h4⟩ := h
    exact ⟨pre, h1, h2, by rw [he.base i hi]; exact h3, h4⟩
  | mark => exact h
  | dead => trivial
def Wr : Blk → Prop
  | .dead => False
  | .cells _ g _ _ => g ≤ 1
  | _ => True
theorem Wr.nd {b : Blk} (h : Wr b) : b ≠ .dead := fun e => by subst e; exact h
structure HR (P : Program) (B : Nat) (w0 : World) (σ : Ren) (h : FH) (w : World) : Prop where
  below : Below B w0 w
  hB : B ≤ w.heap.size
  hro : h.ro ≤ h.next
  lt : ∀ i b, h.get i = some b → i < h.next
  blk : ∀ i b, h.get i = some b → b ≠ .dead → ∃ o, w.heap[σ.blk i]? = some o ∧ BO P σ h.next i o b
  own : ∀ i b, h.get i = some b → Wr b → h.ro ≤ i → B ≤ σ.blk i
  old : ∀ i b, h.get i = some b → b ≠ .dead → i < h.ro → σ.blk i < B
  sep : ∀ i j bi bj, h.get i = some bi → h.get j = some bj → bi ≠ .dead → bj ≠ .dead → (Wr bi ∨ Wr bj) → h.ro ≤ i → h.ro ≤ j → σ.blk i = σ.blk j → i = j
structure Upd (b : Nat) (o : Obj) (w w' : World) : Prop where
  os : w'.os = w.os
  tape : w'.tape = w.tape
  output : w'.output = w.output
  size : w'.heap.size = w.heap.size
  here : w'.heap[b]? = some o
  other : ∀ k, k ≠ b → w'.heap[k]? = w.heap[k]?
section
variable {P : Program} {B : Nat} {w0 : World} {σ σ' : Ren} {h : FH} {w w' : World}
theorem HR.bound (H : HR P B w0 σ h w) {i : Nat} {b : Blk} (hi : h.get i = some b) (hb : b ≠ .dead) : σ.blk i < w.heap.size := by
  obtain ⟨o, ho, _⟩ := H.blk i b hi hb
  exact (Array.getElem?_eq_some_iff.1 ho).1
theorem HR.ext (H : HR P B w0 σ h w) (he : Ext h.next σ σ') : HR P B w0 σ' h w where
  below := H.below
  hB := H.hB
  hro := H.hro
  lt := H.lt
  blk := fun i b hi hb => by
    obtain ⟨o, ho, hbo⟩ := H.blk i b hi hb
    exact ⟨o, by rw [he.blk i (H.lt i b hi)]; exact ho, hbo.ext he (H.lt i b hi) (Nat.le_refl _)⟩
  own := fun i b hi hb hr => by rw [he.blk i (H.lt i b hi)]; exact H.own i b hi hb hr
  old := fun i b hi hb hr => by rw [he.blk i (H.lt i b hi)]; exact H.old i b hi hb hr
  sep := fun i j bi bj hi hj h1 h2 hw h3 h4 h5 => by
    rw [he.blk i (H.lt i bi hi), he.blk j (H.lt j bj hj)] at h5
    exact H.sep i j bi bj hi hj h1 h2 hw h3 h4 h5
theorem HR.drew (H : HR P B w0 σ h w) : HR P B w0 σ h w.drew where
  below := H.below.drew
  hB := H.hB
  hro := H.hro
  lt := H.lt
  blk := H.blk
  own := H.own
  old := H.old
  sep := H.sep
theorem HR.new (H : HR P B w0 σ h w) {o : Obj} {b : Blk} (he : Ext h.next σ σ') (hb : σ'.blk h.next = w.heap.size) (hbo : BO P σ' (h.next + 1) h.next o b) : HR P B w0 σ' (h.new b) (w.alloc o) where
  below := H.below.alloc H.hB o
  hB := by simp; have := H.hB; omega
  hro := by simp; have := H.hro; omega
  lt := fun i b' hi => by
    rcases FH.get_new hi with ⟨a, _⟩ | ⟨_, a⟩
    · simp [a]
    · have := H.lt i b' a; simp; omega
  blk := fun i b' hi hd => by
    rcases FH.get_new hi with ⟨a, a'⟩ | ⟨_, a⟩
    · subst a; subst a'
      exact ⟨o, by rw [hb]; exact heap_alloc_new w o, hbo⟩
    · obtain ⟨o', ho', hbo'⟩ := H.blk i b' a hd
      have hlt := H.lt i b' a
      exact ⟨o', by rw [he.blk i hlt, Below.heap_alloc w o _ (H.bound a hd)]; exact ho', hbo'.ext he hlt (Nat.le_succ _)⟩
  own := fun i b' hi hd hr => by
    rcases FH.get_new hi with ⟨a, a'⟩ | ⟨_, a⟩
    · rw [a, hb]; exact H.hB
    · rw [he.blk i (H.lt i b' a)]; exact H.own i b' a hd hr
  old := fun i b' hi hd hr => by
    rcases FH.get_new hi with ⟨a, a'⟩ | ⟨_, a⟩
    · have := H.hro; simp at hr; omega
    · rw [he.blk i (H.lt i b' a)]; exact H.old i b' a hd hr
  sep := fun i j bi bj hi hj h1 h2 hw h3 h4 h5 => by
    rcases FH.get_new hi with ⟨a, a'⟩ | ⟨_, a⟩ <;> rcases FH.get_new hj with ⟨c, c'⟩ | ⟨_, c⟩
    · rw [a, c]
    · rw [a, hb, he.blk j (H.lt j bj c)] at h5
      have := H.bound c h2; omega
    · rw [c, hb, he.blk i (H.lt i bi a)] at h5
      have := H.bound a h1; omega
    · rw [he.blk i (H.lt i bi a), he.blk j (H.lt j bj c)] at h5
      exact H.sep i j bi bj a c h1 h2 hw h3 h4 h5
theorem HR.put (H : HR P B w0 σ h w) {i : Nat} {b b0 : Blk} {o : Obj} (hi : h.get i = some b0) (hb0 : Wr b0) (hr : h.ro ≤ i) (hu : Upd (σ.blk i) o w w') (hbo : BO P σ h.next i o b) :
    HR P B w0 σ (h.put i b) w' where
  below := H.below.trans ⟨hu.os, hu.tape, hu.output, by rw [hu.size]; exact Nat.le_refl _, fun k hk => hu.other k (by have := H.own i b0 hi hb0 hr; omega)⟩
  hB := by rw [hu.size]; exact H.hB
  hro := H.hro
  lt := fun j b' hj => by
    rcases FH.get_put hj with ⟨a, _⟩ | ⟨_, a⟩
    · subst a; exact H.lt j b0 hi
    · exact H.lt j b' a
  blk := fun j b' hj hd => by
    rcases FH.get_put hj with ⟨a, a'⟩ | ⟨hne, a⟩
    · subst a; subst a'; exact ⟨o, hu.here, hbo⟩
    · obtain ⟨o', ho', hbo'⟩ := H.blk j b' a hd
      refine ⟨o', ?_, hbo'⟩
      rw [hu.other _ ?_]; exact ho'
      intro e
      by_cases hj' : h.ro ≤ j
      · exact hne (H.sep j i b' b0 a hi hd hb0.nd (.inr hb0) hj' hr e)
      · have h1 := H.old j b' a hd (by omega); have h2 := H.own i b0 hi hb0 hr; omega
  own := fun j b' hj hd hr' => by
    rcases FH.get_put hj with ⟨a, _⟩ | ⟨_, a⟩
    · subst a; exact H.own j b0 hi hb0 hr
    · exact H.own j b' a hd hr'
  old := fun j b' hj hd hr' => by
    rcases FH.get_put hj with ⟨a, _⟩ | ⟨_, a⟩
    · subst a; simp at hr'; omega
    · exact H.old j b' a hd hr'
  sep := fun j k bj bk hj hk h1 h2 hw h3 h4 h5 => by
    have key : ∀ x bx, (h.put i b).get x = some bx → bx ≠ .dead → ∃ b1, h.get x = some b1 ∧ b1 ≠ .dead ∧ (Wr bx → Wr b1) := by
      intro x bx hx hdx
      rcases FH.get_put hx with ⟨a, _⟩ | ⟨_, a⟩
      · subst a; exact ⟨b0, hi, hb0.nd, fun _ => hb0⟩
      · exact ⟨bx, a, hdx, id⟩
    obtain ⟨b1, e1, d1, q1⟩ := key j bj hj h1
    obtain ⟨b2, e2, d2, q2⟩ := key k bk hk h2
    exact H.sep j k b1 b2 e1 e2 d1 d2 (hw.imp q1 q2) h3 h4 h5
theorem HR.kill (H : HR P B w0 σ h w) {i : Nat} {b0 : Blk} (hi : h.get i = some b0) : HR P B w0 σ (h.put i .dead) w where
  below := H.below
  hB := H.hB
  hro := H.hro
  lt := fun j b' hj => by
    rcases FH.get_put hj with ⟨a, _⟩ | ⟨_, a⟩
    · subst a; exact H.lt j b0 hi
    · exact H.lt j b' a
  blk := fun j b' hj hd => by
    rcases FH.get_put hj with ⟨a, a'⟩ | ⟨hne, a⟩
    · exact absurd a' hd
    · exact H.blk j b' a hd
  own := fun j b' hj hd hr' => by
    rcases FH.get_put hj with ⟨a, a'⟩ | ⟨_, a⟩
    · exact absurd a' hd.nd
    · exact H.own j b' a hd hr'
  old := fun j b' hj hd hr' => by
    rcases FH.get_put hj with ⟨a, a'⟩ | ⟨_, a⟩
    · exact absurd a' hd
    · exact H.old j b' a hd hr'
  sep := fun j k bj bk hj hk h1 h2 hw h3 h4 h5 => by
    rcases FH.get_put hj with ⟨a, a'⟩ | ⟨_, a⟩
    · exact absurd a' h1
    · rcases FH.get_put hk with ⟨c, c'⟩ | ⟨_, c⟩
      · exact absurd c' h2
      · exact H.sep j k bj bk a c h1 h2 hw h3 h4 h5
theorem HR.renew (H : HR P B w0 σ h w) {i : Nat} {b b0 : Blk} {o : Obj} (hi : h.get i = some b0) (hb0 : Wr b0) (hr : h.ro ≤ i) (hu : Upd (σ.blk i) o w w')
    (he : Ext h.next σ σ') (hb : σ'.blk h.next = σ.blk i) (hbo : BO P σ' (h.next + 1) h.next o b) : HR P B w0 σ' ((h.put i .dead).new b) w' where
  below := H.below.trans ⟨hu.os, hu.tape, hu.output, by rw [hu.size]; exact Nat.le_refl _, fun k hk => hu.other k (by have := H.own i b0 hi hb0 hr; omega)⟩
  hB := by rw [hu.size]; exact H.hB
  hro := by simp; have := H.hro; omega
  lt := fun j b' hj => by
    rcases FH.get_new hj with ⟨a, _⟩ | ⟨_, a⟩
    · simp [a]
    · have := (H.kill hi).lt j b' a; simp at this ⊢; omega
  blk := fun j b' hj hd => by
    rcases FH.get_new hj with ⟨a, a'⟩ | ⟨_, a⟩
    · subst a; subst a'
      exact ⟨o, by simp only [FH.put_next]; rw [hb]; exact hu.here, hbo⟩
    · rcases FH.get_put a with ⟨_, a'⟩ | ⟨hne, a⟩
      · exact absurd a' hd
      · obtain ⟨o', ho', hbo'⟩ := H.blk j b' a hd
        have hlt := H.lt j b' a
        refine ⟨o', ?_, hbo'.ext he hlt (Nat.le_succ _)⟩
        rw [he.blk j hlt, hu.other _ ?_]; exact ho'
        intro e
        by_cases hj' : h.ro ≤ j
        · exact hne (H.sep j i b' b0 a hi hd hb0.nd (.inr hb0) hj' hr e)
        · have h1 := H.old j b' a hd (by omega); have h2 := H.own i b0 hi hb0 hr; omega
  own := fun j b' hj hd hr' => by
    rcases FH.get_new hj with ⟨a, a'⟩ | ⟨_, a⟩
    · rw [a]; simp only [FH.put_next]; rw [hb]; exact H.own i b0 hi hb0 hr
    · rcases FH.get_put a with ⟨_, a'⟩ | ⟨hne, a⟩
      · exact absurd a' hd.nd
      · rw [he.blk j (H.lt j b' a)]; exact H.own j b' a hd hr'
  old := fun j b' hj hd hr' => by
    rcases FH.get_new hj with ⟨a, a'⟩ | ⟨_, a⟩
    · have := H.hro; simp at hr' a; omega
    · rcases FH.get_put a with ⟨_, a'⟩ | ⟨hne, a⟩
      · exact absurd a' hd
      · rw [he.blk j (H.lt j b' a)]; exact H.old j b' a hd hr'
  sep := fun j k bj bk hj hk h1 h2 hw h3 h4 h5 => by
    have key : ∀ x bx, (h.put i .dead).get x = some bx → bx ≠ .dead → x ≠ i ∧ h.get x = some bx := by
      intro x bx hx hdx
      rcases FH.get_put hx with ⟨_, a'⟩ | a
      · exact absurd a' hdx
      · exact a
    rcases FH.get_new hj with ⟨a, a'⟩ | ⟨_, a⟩ <;> rcases FH.get_new hk with ⟨c, c'⟩ | ⟨_, c⟩
    · rw [a, c]
    · obtain ⟨n1, e1⟩ := key k bk c h2
      rw [a] at h5; simp only [FH.put_next] at h5; rw [hb, he.blk k (H.lt k bk e1)] at h5
      exact absurd (H.sep i k b0 bk hi e1 hb0.nd h2 (.inl hb0) hr h4 h5).symm n1
    · obtain ⟨n1, e1⟩ := key j bj a h1
      rw [c] at h5; simp only [FH.put_next] at h5; rw [hb, he.blk j (H.lt j bj e1)] at h5
      exact absurd (H.sep j i bj b0 e1 hi h1 hb0.nd (.inr hb0) h3 hr h5) n1
    · obtain ⟨n1, e1⟩ := key j bj a h1
      obtain ⟨n2, e2⟩ := key k bk c h2
      rw [he.blk j (H.lt j bj e1), he.blk k (H.lt k bk e2)] at h5
      exact H.sep j k bj bk e1 e2 h1 h2 hw h3 h4 h5
end
def Ren.add (σ : Ren) (n b o c : Nat) : Ren :=
  { blk := fun i => if i = n then b else σ.blk i, base := fun i => if i = n then o else σ.base i, cap := fun i => if i = n then c else σ.cap i, emp := σ.emp }
theorem Ren.add_ext (σ : Ren) (n b o c : Nat) : Ext n σ (σ.add n b o c) :=
  ⟨fun i hi => by simp [Ren.add, Nat.ne_of_lt hi], fun i hi => by simp [Ren.add, Nat.ne_of_lt hi], fun i hi => by simp [Ren.add, Nat.ne_of_lt hi], fun _ _ => rfl⟩
@[simp] theorem Ren.add_blk (σ : Ren) (n b o c : Nat) : (σ.add n b o c).blk n = b := by simp [Ren.add]
@[simp] theorem Ren.add_base (σ : Ren) (n b o c : Nat) : (σ.add n b o c).base n = o := by simp [Ren.add]
@[simp] theorem Ren.add_cap (σ : Ren) (n b o c : Nat) : (σ.add n b o c).cap n = c := by simp [Ren.add]
def Ren.addE (σ : Ren) (n : Nat) (a : Addr × Nat) : Ren := { σ with emp := fun i => if i = n then a else σ.emp i }
@[simp] theorem Ren.addE_emp (σ : Ren) (n : Nat) (a : Addr × Nat) : (σ.addE n a).emp n = a := by simp [Ren.addE]
theorem upd_setRow {w : World} {g : Nat} {c c' : Array Value} {t : TypeId} {fr : Nat × Nat} (hg : w.heap[g]? = some (.cells c t fr)) : Upd g (.cells c' t fr) w (w.setRow g c') :=
  ⟨rfl, rfl, rfl, setRow_size w g c', setRow_heap w g c c' t fr hg, fun k hk => setRow_other w g k c' hk⟩
theorem upd_setObj {w : World} {g : Nat} {o o' : Obj} (hg : w.heap[g]? = some o) : Upd g o' w { w with heap := w.heap.setIfInBounds g o' } := by
  have hlt := (Array.getElem?_eq_some_iff.1 hg).1
  exact ⟨rfl, rfl, rfl, by simp, by simp [hlt], fun k hk => by simp [Array.getElem?_setIfInBounds_ne (Ne.symm hk)]⟩
/-! ### reading and writing lists of cells -/
theorem readN_some {cs : KT FV} : ∀ (n i : Nat) (l : List FV), readN cs i n = some l → l.length = n ∧ ∀ j, j < n → ∃ v, l[j]? = some v ∧ cs.get (i + j) (i + j) = some v := by
  intro n
  induction n with
  | zero => intro i l h; simp only [readN, Option.some.injEq] at h; subst h; exact ⟨rfl, fun j hj => by omega⟩
  | succ n ih =>
    intro i l h
    simp only [readN] at h
    cases hv : cs.get i i with
    | none => rw [hv] at h; simp at h
    | some v =>
      rw [hv] at h
      cases hr : readN cs (i + 1) n with
      | none => rw [hr] at h; simp at h
      | some r =>
        rw [hr] at h; simp only [Option.some.injEq] at h; subst h
        obtain ⟨h1, h2⟩ := ih _ _ hr
        refine ⟨by simp [h1], fun j hj => ?_⟩
        cases j with
        | zero => exact ⟨v, rfl, hv⟩
        | succ j =>
          obtain ⟨u, a, b⟩ := h2 j (by omega)
          exact ⟨u, by simpa using a, by have e : i + (j + 1) = i + 1 + j := by omega
                                         rw [e]; exact b⟩
theorem writeN_get : ∀ (l : List FV) (i : Nat) (cs : KT FV) (j : Nat) (v : FV), (writeN cs i l).get j j = some v → (i ≤ j ∧ l[j - i]? = some v) ∨ ((j < i ∨ i + l.length ≤ j) ∧ cs.get j j = some v) := by
  intro l
  induction l with
  | nil => intro i cs j v h; exact .inr ⟨by simp; omega, h⟩
  | cons x l ih =>
    intro i cs j v h
    simp only [writeN] at h
    rcases ih _ _ _ _ h with ⟨a, b⟩ | ⟨a, b⟩
    · refine .inl ⟨by omega, ?_⟩
      have : j - i = (j - (i + 1)) + 1 := by omega
      rw [this]; simpa using b
    · rcases KT.get_set b with ⟨c, d⟩ | ⟨c, d⟩
      · subst c; subst d; exact .inl ⟨Nat.le_refl _, by simp⟩
      · exact .inr ⟨by simp; omega, d⟩
theorem run_read {P : Program} {w : World} {g o : Nat} {c : Array Value} {t : TypeId} {fr : Nat × Nat} (hg : w.heap[g]? = some (.cells c t fr)) (l : List Value) (h : ∀ j v, l[j]? = some v → c[o + j]? = some v) :
    (loadCells ⟨g, o, none⟩ l.length).run P w = .ok l.toArray w := by
  refine run_loadCells_list w ⟨g, o, none⟩ l fun j v hj => ?_
  have hadd : (⟨g, o, none⟩ : Addr).add j = ⟨g, o + j, none⟩ := by unfold Addr.add; split <;> simp_all
  rw [hadd, cell_of_row w g (o + j) c t fr hg]
  exact h j v hj
end Go.Ev
