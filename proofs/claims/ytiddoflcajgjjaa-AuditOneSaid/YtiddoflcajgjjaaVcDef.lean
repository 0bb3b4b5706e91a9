/- The abstract machine: types, data, abstract values, abstract code, and what a piece of code must come to ('awp'), computed. Plain definitions: nothing of a program stands here. -/
import GoSem.Core.Code
import GoSem.Core.View
namespace Go.Vc

/-! ### Types, resolved -/
inductive Ty where
  | int (k : IntKind) | bool | str
  | sl (e : Ty) | st (fs : List Ty) | arr (n : Nat) (e : Ty)
  | ptr | fn | op
  deriving Inhabited

mutual
def Ty.size : Ty → Nat
  | .st fs => Ty.sizes fs
  | .arr n e => n * Ty.size e
  | _ => 1
def Ty.sizes : List Ty → Nat
  | [] => 0
  | t :: ts => Ty.size t + Ty.sizes ts
end

mutual
def Ty.same : Ty → Ty → Bool
  | .int j, .int k => decide (j = k)
  | .bool, .bool => true
  | .str, .str => true
  | .sl e, .sl f => Ty.same e f
  | .st fs, .st gs => Ty.sames fs gs
  | .arr n e, .arr m f => Nat.beq n m && Ty.same e f
  | .ptr, .ptr => true
  | .fn, .fn => true
  | .op, .op => true
  | _, _ => false
def Ty.sames : List Ty → List Ty → Bool
  | [], [] => true
  | t :: ts, u :: us => Ty.same t u && Ty.sames ts us
  | _, _ => false
end

mutual
theorem Ty.same_eq : ∀ (t u : Ty), Ty.same t u = true → t = u
  | .int j, u, h => by cases u <;> simp [Ty.same] at h; rw [h]
  | .bool, u, h => by cases u <;> simp [Ty.same] at h; rfl
  | .str, u, h => by cases u <;> simp [Ty.same] at h; rfl
  | .ptr, u, h => by cases u <;> simp [Ty.same] at h; rfl
  | .fn, u, h => by cases u <;> simp [Ty.same] at h; rfl
  | .op, u, h => by cases u <;> simp [Ty.same] at h; rfl
  | .sl e, u, h => by cases u <;> simp [Ty.same] at h; rw [Ty.same_eq e _ h]
  | .st fs, u, h => by cases u <;> simp [Ty.same] at h; rw [Ty.sames_eq fs _ h]
  | .arr n e, u, h => by cases u <;> simp [Ty.same] at h; rw [h.1, Ty.same_eq e _ h.2]
theorem Ty.sames_eq : ∀ (ts us : List Ty), Ty.sames ts us = true → ts = us
  | [], [], _ => rfl
  | t :: ts, u :: us, h => by
    simp [Ty.sames] at h
    rw [Ty.same_eq t u h.1, Ty.sames_eq ts us h.2]
  | [], _ :: _, h => by simp [Ty.sames] at h
  | _ :: _, [], h => by simp [Ty.sames] at h
end

mutual
theorem same_refl : ∀ (t : Ty), Ty.same t t = true
  | .int _ => by simp [Ty.same]
  | .bool => rfl
  | .str => rfl
  | .ptr => rfl
  | .fn => rfl
  | .op => rfl
  | .sl e => by simp [Ty.same, same_refl e]
  | .arr n e => by simp [Ty.same, same_refl e]
  | .st ts => by simp [Ty.same, sames_refl ts]
theorem sames_refl : ∀ (ts : List Ty), Ty.sames ts ts = true
  | [] => rfl
  | t :: ts => by simp [Ty.sames, same_refl t, sames_refl ts]
end

/-! ### Data without addresses -/
inductive D where
  | i (n : Int) | b (b : Bool) | s (s : ByteArray) | l (xs : List D) | a (fs : List D)
instance : Inhabited D := ⟨.i 0⟩
def D.int : D → Int | .i n => n | _ => 0
def D.bool : D → Bool | .b x => x | _ => false
def D.str : D → ByteArray | .s x => x | _ => ⟨#[]⟩
def D.list : D → List D | .l xs => xs | _ => []
def D.fs : D → List D | .a xs => xs | _ => []
def D.fld (d : D) (i : Nat) : D := d.fs.getD i (.i 0)

/-! ### Abstract values -/
inductive Tok where
  | no            -- nothing is known of the capacity
  | full          -- the capacity is the length
  | own (id : Nat) -- this slice may be appended to in place: its row is block 'id'
inductive PStep where
  | fld (i : Nat) | idx (n : Nat)
inductive AV where
  | undef
  | int (k : IntKind) (n : Int) | bool (b : Bool) | str (s : ByteArray)
  | sl (e : Ty) (xs : List D) (t : Tok)
  | rsl (id : Nat) (e : Ty) (off len : Nat)
  | st (fs : List AV) | arr (n : Nat) (e : Ty) (xs : List D)
  | ptr (id : Nat) (path : List PStep) (t : Ty)
  | cptr (t : Ty) (d : D)
  | nilp
  | fn (f : FuncId) (caps : List AV) | nilfn
  | tup (vs : List AV)
instance : Inhabited AV := ⟨.undef⟩

inductive Blk where
  | resv | dead
  | var (t : Ty) (v : AV) (fz : Bool)
  | fix (e : Ty) (xs : List D) (fz : Bool)
  | ext (e : Ty) (n : Nat)
  | grw (e : Ty) (xs : List D)  -- a row that grows, of which nobody reads yet
instance : Inhabited Blk := ⟨.dead⟩

mutual
def ofD : Ty → D → AV
  | .int k, d => .int k d.int
  | .bool, d => .bool d.bool
  | .str, d => .str d.str
  | .sl e, d => .sl e d.list .no
  | .st fs, d => .st (ofDs fs 0 d)
  | .arr n e, d => .arr n e d.fs
  | .ptr, _ => .nilp
  | .fn, _ => .nilfn
  | .op, _ => .undef
def ofDs : List Ty → Nat → D → List AV
  | [], _, _ => []
  | t :: ts, i, d => ofD t (d.fld i) :: ofDs ts (i + 1) d
end

mutual
def toD : AV → D
  | .int _ n => .i n
  | .bool x => .b x
  | .str x => .s x
  | .sl _ xs _ => .l xs
  | .st fs => .a (toDs fs)
  | .arr _ _ xs => .a xs
  | _ => .i 0
def toDs : List AV → List D
  | [] => []
  | v :: vs => toD v :: toDs vs
end

mutual
/-- Has a value the form of a type? (Data alone.) -/
def fits : AV → Ty → Bool
  | .int k _, .int j => decide (k = j)
  | .bool _, .bool => true
  | .str _, .str => true
  | .sl e _ _, .sl f => Ty.same e f
  | .st vs, .st ts => fitss vs ts
  | .arr n e _, .arr m f => Nat.beq n m && Ty.same e f
  | _, _ => false
def fitss : List AV → List Ty → Bool
  | [], [] => true
  | v :: vs, t :: ts => fits v t && fitss vs ts
  | _, _ => false
end

mutual
/-- .. or of a type that a variable may have: one cell of another kind is let. -/
def fitsV : AV → Ty → Bool
  | .int k _, .int j => decide (k = j)
  | .bool _, .bool => true
  | .str _, .str => true
  | .sl e _ _, .sl f => Ty.same e f
  | .rsl _ e _ _, .sl f => Ty.same e f
  | .st vs, .st ts => fitsVs vs ts
  | .arr n e _, .arr m f => Nat.beq n m && Ty.same e f
  | .ptr _ _ _, .ptr => true
  | .cptr _ _, .ptr => true
  | .nilp, .ptr => true
  | .fn _ _, .fn => true
  | .nilfn, .fn => true
  | _, _ => false
def fitsVs : List AV → List Ty → Bool
  | [], [] => true
  | v :: vs, t :: ts => fitsV v t && fitsVs vs ts
  | _, _ => false
end

mutual
def zeroD : Ty → D
  | .int _ => .i 0
  | .bool => .b false
  | .str => .s ⟨#[]⟩
  | .sl _ => .l []
  | .st fs => .a (zeroDs fs)
  | .arr n e => .a (List.replicate n (zeroD e))
  | _ => .i 0
def zeroDs : List Ty → List D
  | [] => []
  | t :: ts => zeroD t :: zeroDs ts
end
def zeroA (t : Ty) : AV := ofD t (zeroD t)

/-! ### Ways into a value -/
def getD' : Ty → List PStep → D → AV
  | t, [], d => ofD t d
  | .st ts, .fld i :: p, d => getD' (ts.getD i .op) p (d.fld i)
  | .arr _ e, .idx n :: p, d => getD' e p (d.fs.getD n (.i 0))
  | _, _, _ => .undef
def getA : List PStep → AV → AV
  | [], v => v
  | .fld i :: p, .st vs => getA p (vs.getD i .undef)
  | .idx n :: p, .arr _ e xs => getD' e p (xs.getD n (.i 0))
  | _, _ => .undef
def padSet : List D → Nat → D → List D
  | [], 0, x => [x]
  | [], i + 1, x => .i 0 :: padSet [] i x
  | _ :: r, 0, x => x :: r
  | y :: r, i + 1, x => y :: padSet r i x
def setD' : Ty → List PStep → D → AV → D
  | _, [], _, v => toD v
  | .st ts, .fld i :: p, d, v => .a (padSet d.fs i (setD' (ts.getD i .op) p (d.fld i) v))
  | .arr _ e, .idx n :: p, d, v => .a (d.fs.set n (setD' e p (d.fs.getD n (.i 0)) v))
  | _, _, d, _ => d
def setA : List PStep → AV → AV → AV
  | [], _, v => v
  | .fld i :: p, .st vs, v => .st (vs.set i (setA p (vs.getD i .undef) v))
  | .idx n :: p, .arr m e xs, v => .arr m e (xs.set n (setD' e p (xs.getD n (.i 0)) v))
  | _, u, _ => u
/-- The type at the end of a way. -/
def endP : Ty → List PStep → Ty
  | t, [] => t
  | .st ts, .fld i :: p => endP (ts.getD i .op) p
  | .arr _ e, .idx _ :: p => endP e p
  | _, _ => .op

/-! ### The state -/
abbrev Env := List (Nat × AV)
abbrev Heap := List Blk
def get : Env → Nat → AV
  | [], _ => .undef
  | (s, v) :: r, t => bif Nat.beq s t then v else get r t
def put (e : Env) (d : Nat) (v : AV) : Env := (d, v) :: e
def restr (live : List Nat) (e : Env) : Env := live.map fun t => (t, get e t)
inductive Ar where
  | t (n : Nat) | k (v : AV)
def Ar.ev : Ar → Env → AV
  | .t n, e => get e n
  | .k v, _ => v

mutual
/-- All addresses lie below block n. -/
def low (n : Nat) : AV → Bool
  | .sl _ _ (.own id) => Nat.blt id n
  | .rsl id _ _ _ => Nat.blt id n
  | .ptr id _ _ => Nat.blt id n
  | .st vs => lows n vs
  | .fn _ vs => lows n vs
  | .tup vs => lows n vs
  | _ => true
def lows (n : Nat) : List AV → Bool
  | [] => true
  | v :: vs => low n v && lows n vs
end
def lowE (n : Nat) : Env → Bool
  | [] => true
  | (_, v) :: r => low n v && lowE n r
def lowB (n : Nat) : Blk → Bool
  | .var _ v _ => low n v
  | _ => true
def lowH (n : Nat) : Heap → Bool
  | [] => true
  | b :: r => lowB n b && lowH n r

/-! ### Operations that give a value out of values -/
inductive VR where
  | ok (v : AV) | iff (c : Prop) (v : AV) | bad

mutual
/-- A value, its form laid open before use. -/
def frc {α : Type} : AV → (AV → α) → α
  | .st vs, k => frcs vs fun vs => k (.st vs)
  | .tup vs, k => frcs vs fun vs => k (.tup vs)
  | .int a n, k => k (.int a n)
  | .bool b, k => k (.bool b)
  | .str b, k => k (.str b)
  | .sl e xs t, k => k (.sl e xs t)
  | .rsl i e o n, k => k (.rsl i e o n)
  | .arr n e xs, k => k (.arr n e xs)
  | .ptr i p t, k => k (.ptr i p t)
  | .cptr t d, k => k (.cptr t d)
  | .nilp, k => k .nilp
  | .fn f vs, k => k (.fn f vs)
  | .nilfn, k => k .nilfn
  | .undef, k => k .undef
def frcs {α : Type} : List AV → (List AV → α) → α
  | [], k => k []
  | v :: vs, k => frc v fun v => frcs vs fun vs => k (v :: vs)
end
mutual
theorem frc_eq {α : Type} : ∀ (v : AV) (k : AV → α), frc v k = k v
  | .st vs, k => by simp only [frc]; rw [frcs_eq vs]
  | .tup vs, k => by simp only [frc]; rw [frcs_eq vs]
  | .fn f vs, k | .int .., k | .bool _, k | .str _, k | .sl .., k | .rsl .., k | .arr .., k | .ptr .., k | .cptr .., k | .nilp, k | .nilfn, k | .undef, k => by simp only [frc]
theorem frcs_eq {α : Type} : ∀ (vs : List AV) (k : List AV → α), frcs vs k = k vs
  | [], k => by simp only [frcs]
  | v :: vs, k => by simp only [frcs]; rw [frc_eq v, frcs_eq vs]
end

inductive Cmp where | eq | ne | lt | le | gt | ge
inductive Bit where | and | or | xor | andNot
def bitI : Bit → IntKind → Int → Int → Int
  | .and, k, x, y => k.wrap (BitVec.ofInt k.bits x &&& BitVec.ofInt k.bits y).toNat
  | .or, k, x, y => k.wrap (BitVec.ofInt k.bits x ||| BitVec.ofInt k.bits y).toNat
  | .xor, k, x, y => k.wrap (BitVec.ofInt k.bits x ^^^ BitVec.ofInt k.bits y).toNat
  | .andNot, k, x, y => k.wrap (BitVec.ofInt k.bits x &&& ~~~ BitVec.ofInt k.bits y).toNat

mutual
def eqD : Ty → D → D → Bool
  | .int _, x, y => decide (x.int = y.int)
  | .bool, x, y => x.bool == y.bool
  | .str, x, y => decide (x.str = y.str)
  | .st ts, x, y => eqDs ts 0 x y
  | .arr n e, x, y => eqDn (eqD e) n x.fs y.fs
  | _, _, _ => false
def eqDs : List Ty → Nat → D → D → Bool
  | [], _, _, _ => true
  | t :: ts, i, x, y => eqD t (x.fld i) (y.fld i) && eqDs ts (i + 1) x y
def eqDn (f : D → D → Bool) : Nat → List D → List D → Bool
  | 0, _, _ => true
  | n + 1, xs, ys => f (xs.headD (.i 0)) (ys.headD (.i 0)) && eqDn f n xs.tail ys.tail
end
mutual
def cmpOK : Ty → Bool
  | .int _ => true
  | .bool => true
  | .str => true
  | .st ts => cmpOKs ts
  | .arr _ e => cmpOK e
  | _ => false
def cmpOKs : List Ty → Bool
  | [] => true
  | t :: ts => cmpOK t && cmpOKs ts
end
mutual
def eqA : Ty → AV → AV → Bool
  | .int _, .int _ x, .int _ y => decide (x = y)
  | .bool, .bool x, .bool y => x == y
  | .str, .str x, .str y => decide (x = y)
  | .st ts, .st xs, .st ys => eqAs ts xs ys
  | .arr n e, .arr _ _ xs, .arr _ _ ys => eqDn (eqD e) n xs ys
  | _, _, _ => false
def eqAs : List Ty → List AV → List AV → Bool
  | t :: ts, x :: xs, y :: ys => eqA t x y && eqAs ts xs ys
  | _, _, _ => true
end

def cmpI : Cmp → Int → Int → Bool
  | .eq, x, y => decide (x = y)
  | .ne, x, y => !decide (x = y)
  | .lt, x, y => decide (x < y)
  | .le, x, y => decide (x ≤ y)
  | .gt, x, y => decide (y < x)
  | .ge, x, y => decide (y ≤ x)

/-- The bytes of a row of bytes. -/
def bytesOf (xs : List D) : ByteArray := ⟨(xs.map fun d => UInt8.ofNat d.int.toNat).toArray⟩

inductive VOp where
  | move (x : Ar)
  | drop (x : Ar)
  | pick (c a b : Ar)
  | add (x y : Ar) | sub (x y : Ar) | mul (x y : Ar) | quo (x y : Ar) | rem (x y : Ar)
  | bit (o : Bit) (x y : Ar)
  | shl (x y : Ar) | shr (x y : Ar)
  | cmp (o : Cmp) (x y : Ar)
  | eqT (t : Ty) (neg : Bool) (x y : Ar)
  | not (x : Ar) | neg (x : Ar)
  | conv (k : IntKind) (x : Ar)
  | convS (b : Bool) (x : Ar)
  | ext (x : Ar) (i : Nat)
  | len (s : Bool) (x : Ar)
  | min (x y : Ar) | max (x y : Ar)
  | fadr (t : Ty) (i : Nat) (x : Ar)
  | iadr (n : Option Nat) (e : Ty) (x i : Ar)
  | slice (e : Ty) (x : Ar) (lo hi mx : Option Ar)
  | sliceS (x : Ar) (lo hi : Option Ar)
  | slc (e : Ty) (x hi : Ar)
  | sliceA (n : Nat) (e : Ty) (x : Ar) (lo hi : Option Ar)
  | loadC (t : Ty) (x : Ar)
  | build (t : Ty) (ps : List (Nat × Ar))
  | mkfn (f : FuncId) (caps : List Ar)
  | nilck (x : Ar)
  | sarr (n : Nat) (e : Ty) (x : Ar)
  | sidx (x i : Ar)
  | aidx (n : Nat) (e : Ty) (x i : Ar)
  | fieldv (t : Ty) (i : Nat) (x : Ar)

def setParts : List AV → List (Nat × AV) → List AV
  | vs, [] => vs
  | vs, (i, v) :: ps => setParts (vs.set i v) ps
def setPartsD : List D → List (Nat × AV) → List D
  | vs, [] => vs
  | vs, (i, v) :: ps => setPartsD (vs.set i (toD v)) ps
def fitParts : List Ty → List (Nat × AV) → Bool
  | _, [] => true
  | ts, (i, v) :: ps => fitsV v (ts.getD i .op) && Nat.blt i ts.length && fitParts ts ps
def fitPartsD (e : Ty) (n : Nat) : List (Nat × AV) → Bool
  | [] => true
  | (i, v) :: ps => fits v e && Nat.blt i n && fitPartsD e n ps

def oneA : AV → Bool
  | .undef => false | .st _ => false | .arr .. => false | .tup _ => false | _ => true
def oneAs : List AV → Bool
  | [] => true
  | v :: vs => oneA v && oneAs vs
def evs : List Ar → Env → List AV
  | [], _ => []
  | x :: xs, e => x.ev e :: evs xs e
def evps : List (Nat × Ar) → Env → List (Nat × AV)
  | [], _ => []
  | (i, x) :: xs, e => (i, x.ev e) :: evps xs e
def optI : Option Ar → Env → Int → Option Int
  | none, _, d => some d
  | some x, e, _ => match x.ev e with
    | .int _ n => some n
    | _ => none

/-- A slice's bounds: low, high, max; what must hold of them. -/
abbrev cutOK (lo hi mx : Int) : Prop := 0 ≤ lo ∧ lo ≤ hi ∧ hi ≤ mx

/-- What was skipped counts as unknown. -/
def unk : AV → AV
  | .tup [] => .undef
  | v => v
/-- Without what is known of a slice's room. -/
def noTok : AV → AV
  | .sl t xs _ => .sl t xs .no
  | v => v
def vop : VOp → Env → VR
  | .move x, e => .ok (x.ev e)
  | .drop x, e => .ok (noTok (x.ev e))
  | .pick c a b, e => match c.ev e with
    | .bool c => match unk (a.ev e), unk (b.ev e) with
      | .bool a, .bool b => .ok (.bool (cond c a b))
      | .undef, b => .iff (c = false) b
      | a, .undef => .iff (c = true) a
      | _, _ => .bad
    | _ => .bad
  | .add x y, e => match x.ev e, y.ev e with
    | .int k a, .int j b => bif decide (k = j) then .ok (.int k (k.wrap (a + b))) else .bad
    | .str a, .str b => .iff (a.size + b.size ≤ 9223372036854775807) (.str (a ++ b))
    | _, _ => .bad
  | .sub x y, e => match x.ev e, y.ev e with
    | .int k a, .int j b => bif decide (k = j) then .ok (.int k (k.wrap (a - b))) else .bad
    | _, _ => .bad
  | .mul x y, e => match x.ev e, y.ev e with
    | .int k a, .int j b => bif decide (k = j) then .ok (.int k (k.wrap (a * b))) else .bad
    | _, _ => .bad
  | .quo x y, e => match x.ev e, y.ev e with
    | .int k a, .int j b => bif decide (k = j) then .iff (b ≠ 0) (.int k (k.wrap (a.tdiv b))) else .bad
    | _, _ => .bad
  | .rem x y, e => match x.ev e, y.ev e with
    | .int k a, .int j b => bif decide (k = j) then .iff (b ≠ 0) (.int k (a.tmod b)) else .bad
    | _, _ => .bad
  | .bit o x y, e => match x.ev e, y.ev e with
    | .int k a, .int j b => bif decide (k = j) then .ok (.int k (bitI o k a b)) else .bad
    | _, _ => .bad
  | .shl x y, e => match x.ev e, y.ev e with
    | .int k a, .int _ b => .iff (0 ≤ b) (.int k (k.wrap (a * 2 ^ (Nat.min b.toNat k.bits))))
    | _, _ => .bad
  | .shr x y, e => match x.ev e, y.ev e with
    | .int k a, .int _ b => .iff (0 ≤ b) (.int k (a.fdiv (2 ^ (Nat.min b.toNat k.bits))))
    | _, _ => .bad
  | .cmp o x y, e => match x.ev e, y.ev e with
    | .int k a, .int j b => bif decide (k = j) then .ok (.bool (cmpI o a b)) else .bad
    | _, _ => .bad
  | .eqT t neg x y, e => frc (x.ev e) fun xv => frc (y.ev e) fun yv => bif cmpOK t && fits xv t && fits yv t then (bif neg then .ok (.bool (!eqA t xv yv)) else .ok (.bool (eqA t xv yv))) else .bad
  | .not x, e => match x.ev e with
    | .bool b => .ok (.bool (!b))
    | _ => .bad
  | .neg x, e => match x.ev e with
    | .int k n => .ok (.int k (k.wrap (0 - n)))
    | _ => .bad
  | .conv k x, e => match x.ev e with
    | .int _ n => .ok (.int k (k.wrap n))
    | _ => .bad
  | .convS true x, e => match x.ev e with
    | .sl (.int .u8) xs _ => .ok (.str (bytesOf xs))
    | _ => .bad
  | .convS false x, e => match x.ev e with
    | .str s => .ok (.str s)
    | _ => .bad
  | .ext x i, e => match x.ev e with
    | .tup vs => bif Nat.blt i vs.length then .ok (vs.getD i .undef) else .bad
    | _ => .bad
  | .len false x, e => match x.ev e with
    | .sl _ xs _ => .ok (.int .i64 xs.length)
    | .rsl _ _ _ n => .ok (.int .i64 n)
    | _ => .bad
  | .len true x, e => match x.ev e with
    | .str s => .ok (.int .i64 s.size)
    | _ => .bad
  | .min x y, e => match x.ev e, y.ev e with
    | .int k a, .int j b => bif decide (k = j) then .ok (.int k (if b < a then b else a)) else .bad
    | _, _ => .bad
  | .max x y, e => match x.ev e, y.ev e with
    | .int k a, .int j b => bif decide (k = j) then .ok (.int k (if a < b then b else a)) else .bad
    | _, _ => .bad
  | .fadr t i x, e => match x.ev e, t with
    | .ptr id p u, .st ts => bif Ty.same u (.st ts) && Nat.blt i ts.length then .ok (.ptr id (p ++ [.fld i]) (ts.getD i .op)) else .bad
    | .cptr u d, .st ts => bif Ty.same u (.st ts) && Nat.blt i ts.length then .ok (.cptr (ts.getD i .op) (d.fld i)) else .bad
    | _, _ => .bad
  | .iadr none t x i, e => match x.ev e, i.ev e with
    | .sl u xs _, .int _ i => bif Ty.same u t then .iff (0 ≤ i ∧ i < xs.length) (.cptr t (xs.getD i.toNat (.i 0))) else .bad
    | .rsl id u off len, .int _ i => bif Ty.same u t then .iff (0 ≤ i ∧ i < len) (.ptr id [.idx (off + i.toNat)] t) else .bad
    | _, _ => .bad
  | .iadr (some n) t x i, e => match x.ev e, i.ev e with
    | .ptr id p u, .int _ i => bif Ty.same u (.arr n t) then .iff (0 ≤ i ∧ i < n) (.ptr id (p ++ [.idx i.toNat]) t) else .bad
    | .cptr u d, .int _ i => bif Ty.same u (.arr n t) then .iff (0 ≤ i ∧ i < n) (.cptr t (d.fs.getD i.toNat (.i 0))) else .bad
    | _, _ => .bad
  | .slice t x lo hi mx, e => match x.ev e with
    | .sl u xs tok => bif Ty.same u t then (match optI lo e 0, optI hi e xs.length, mx with
      | some l, some h, none => match tok, hi with
        | .full, none => .iff (0 ≤ l ∧ l ≤ xs.length) (.sl t (xs.drop l.toNat) .full)
        | _, _ => .iff (cutOK l h xs.length) (.sl t ((xs.drop l.toNat).take (h.toNat - l.toNat)) .no)
      | some l, some h, some m => match hi, m.ev e with
        | some _, .int _ m => .iff (cutOK l h m ∧ m ≤ xs.length ∧ h = m) (.sl t ((xs.drop l.toNat).take (h.toNat - l.toNat)) .full)
        | _, _ => .bad
      | _, _, _ => .bad) else .bad
    | .rsl id u off len => bif Ty.same u t then (match optI lo e 0, optI hi e len, mx with
      | some l, some h, none => .iff (cutOK l h len) (.rsl id t (off + l.toNat) (h.toNat - l.toNat))
      | _, _, _ => .bad) else .bad
    | _ => .bad
  | .slc t x hi, e => match x.ev e, hi.ev e with
    | .sl u [] .full, .int _ h => bif Ty.same u t then .iff (h = 0) (.sl t [] .full) else .bad
    | _, _ => .bad
  | .sliceS x lo hi, e => match x.ev e with
    | .str s => match optI lo e 0, optI hi e s.size with
      | some l, some h => .iff (cutOK l h s.size) (.str (s.extract l.toNat h.toNat))
      | _, _ => .bad
    | _ => .bad
  | .sliceA n t x lo hi, e => match x.ev e with
    | .cptr u d => bif Ty.same u (.arr n t) then (match optI lo e 0, optI hi e n with
      | some l, some h => .iff (cutOK l h n) (.sl t ((d.fs.drop l.toNat).take (h.toNat - l.toNat)) .no)
      | _, _ => .bad) else .bad
    | _ => .bad
  | .loadC t x, e => match x.ev e with
    | .cptr u d => bif Ty.same u t then .ok (ofD t d) else .bad
    | _ => .bad
  | .build t ps, e => match t with
    | .st ts => bif fitParts ts (evps ps e) then .ok (.st (setParts (ofDs ts 0 (zeroD (.st ts))) (evps ps e))) else .bad
    | .arr n t => bif fitPartsD t n (evps ps e) then .ok (.arr n t (setPartsD (List.replicate n (zeroD t)) (evps ps e))) else .bad
    | _ => .bad
  | .mkfn f caps, e => bif oneAs (evs caps e) then .ok (.fn f (evs caps e)) else .bad
  | .nilck x, e => match x.ev e with
    | .ptr id p t => .ok (.ptr id p t)
    | .cptr t d => .ok (.cptr t d)
    | _ => .bad
  | .sarr n t x, e => match x.ev e with
    | .sl u xs _ => bif Ty.same u t then .iff (n ≤ xs.length ∧ 0 < n) (.cptr (.arr n t) (.a (xs.take n))) else .bad
    | _ => .bad
  | .sidx x i, e => match x.ev e, i.ev e with
    | .str s, .int _ i => .iff (0 ≤ i ∧ i < s.size) (.int .u8 (s.data.getD i.toNat 0).toNat)
    | _, _ => .bad
  | .aidx n t x i, e => match x.ev e, i.ev e with
    | .arr m u xs, .int _ i => bif Nat.beq m n && Ty.same u t then .iff (0 ≤ i ∧ i < n) (ofD t (xs.getD i.toNat (.i 0))) else .bad
    | _, _ => .bad
  | .fieldv t i x, e => match x.ev e, t with
    | .st vs, .st ts => bif fitsVs vs ts && Nat.blt i ts.length then .ok (vs.getD i .undef) else .bad
    | _, _ => .bad

end Go.Vc
