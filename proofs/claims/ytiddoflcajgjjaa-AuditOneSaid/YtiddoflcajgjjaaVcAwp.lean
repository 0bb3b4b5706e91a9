/- Operations on memory, abstract code, and what a piece of it must come to. -/
import Derived.Test.YtiddoflcajgjjaaVcDef
set_option linter.unusedVariables false
namespace Go.Vc

/-- A condition, and what follows. -/
structure Nd (c p : Prop) : Prop where
  c : c
  p : p
/-- Two ways. -/
structure Br (b : Bool) (p q : Prop) : Prop where
  t : b = true → p
  f : ¬ b = true → q
theorem Br.use {b want : Bool} {p q : Prop} (h : Br b (bif want then p else q) (bif want then q else p)) : (b = want → p) ∧ (b = (!want) → q) := by
  cases want <;> cases b <;> simp <;> first | exact h.t rfl | exact h.f (by simp)

theorem Br.cs {b : Bool} {p q : Prop} (ht : b = true → p) (hf : b = false → q) : Br b p q := ⟨ht, fun h => hf (by simpa using h)⟩
/-- A bool, to be named. -/
structure Bo (b : Bool) (p : Bool → Prop) : Prop where
  p : p b
theorem Bo.gen {b : Bool} {p : Bool → Prop} (h : ∀ c, c = b → p c) : Bo b p := ⟨h b rfl⟩

inductive PR where
  | ok (r : AV) (n : Heap) | iff (c : Prop) (r : AV) (n : Heap) | bad | br (b : Bool) (x y : PR)
inductive SR where
  | ok (r : AV) (h : Heap) | iff (c : Prop) (r : AV) (h : Heap) | bad | br (b : Bool) (x y : SR)
def PR.res : PR → PR
  | .br b x y => bif b then x.res else y.res
  | q => q
def SR.res : SR → SR
  | .br b x y => bif b then x.res else y.res
  | q => q
def prK : PR → (PR → Prop) → Prop
  | .br b x y, k => Br b (prK x k) (prK y k)
  | q, k => k q
def srK : SR → (SR → Prop) → Prop
  | .br b x y, k => Br b (srK x k) (srK y k)
  | q, k => k q
theorem prK_iff : ∀ (q : PR) (k : PR → Prop), prK q k ↔ k q.res
  | .br b x y, k => by
    simp only [prK, PR.res]
    constructor
    · intro h
      cases b with
      | true => exact (prK_iff x k).1 (h.t rfl)
      | false => exact (prK_iff y k).1 (h.f (by simp))
    · intro h
      refine ⟨fun hb => ?_, fun hb => ?_⟩
      · subst hb; exact (prK_iff x k).2 h
      · have hb : b = false := by simpa using hb
        subst hb; exact (prK_iff y k).2 h
  | .ok _ _, k | .iff _ _ _, k | .bad, k => by simp only [prK, PR.res]
theorem srK_iff : ∀ (q : SR) (k : SR → Prop), srK q k ↔ k q.res
  | .br b x y, k => by
    simp only [srK, SR.res]
    constructor
    · intro h
      cases b with
      | true => exact (srK_iff x k).1 (h.t rfl)
      | false => exact (srK_iff y k).1 (h.f (by simp))
    · intro h
      refine ⟨fun hb => ?_, fun hb => ?_⟩
      · subst hb; exact (srK_iff x k).2 h
      · have hb : b = false := by simpa using hb
        subst hb; exact (srK_iff y k).2 h
  | .ok _ _, k | .iff _ _ _, k | .bad, k => by simp only [srK, SR.res]
/-- What is known of functions: 'p': called with data alone; 's': called with the whole heap. -/
structure Orc where
  p : FuncId → List AV → PR
  s : FuncId → List AV → Heap → SR
  fu : FuncId → Bool := fun _ => false
mutual
/-- Of capacities nothing is told. -/
def drp : AV → AV
  | .sl e xs _ => .sl e xs .no
  | .st vs => .st (drps vs)
  | .undef => .undef
  | .int k n => .int k n
  | .bool b => .bool b
  | .str s => .str s
  | .rsl i e o n => .rsl i e o n
  | .arr n e xs => .arr n e xs
  | .ptr i p t => .ptr i p t
  | .cptr t d => .cptr t d
  | .nilp => .nilp
  | .fn f vs => .fn f vs
  | .nilfn => .nilfn
  | .tup vs => .tup vs
def drps : List AV → List AV
  | [] => []
  | v :: vs => drp v :: drps vs
end
def drpF (b : Bool) (vs : List AV) : List AV := bif b then vs else drps vs

inductive AOp where
  | v (d : Nat) (o : VOp)
  | load (d : Nat) (t : Ty) (x : Ar)
  | alloc (d off : Nat) (t : Ty)
  | box (d off : Nat) (t : Ty) (x : Ar)
  | lit (d off : Nat) (e : Ty) (n : Nat) (ps : List (Nat × Ar)) (fx : Bool)
  | make (d off : Nat) (e : Ty) (bs : Nat) (l : Ar)
  | app (d off : Nat) (e : Ty) (bs : Nat) (s x : Ar) (fx : Bool)
  | appz (d off : Nat) (e : Ty) (bs : Nat) (s n : Ar)
  | store (t : Ty) (x y : Ar)
  | mk (d off : Nat) (e : Ty) (x : Ar)
  | close (d : Nat) (x : Ar)
  | trim (d : Nat) (x hi : Ar)
  | acut (d : Nat) (n : Nat) (e : Ty) (x : Ar) (lo hi : Option Ar)
  | callP (d : Option Nat) (f : FuncId) (args : List Ar) (off cnt : Nat) (fz : Bool)
  | callS (d : Option Nat) (x : Ar) (args : List Ar) (mks : List (Nat × Nat × Ty)) (fs : List FuncId)
  | eqnil (d : Nat) (neg : Bool) (x : Ar)
  | cap (d : Nat) (x : Ar)
  | boxc (d : Nat) (t : Ty) (x : Ar)
  | stop (d : Option Nat)

/-! ### Addresses, named anew -/
def ren (n0 to id : Nat) : Nat := bif Nat.blt id n0 then id else id - n0 + to
mutual
def renA (n0 to : Nat) : AV → AV
  | .sl e xs (.own id) => .sl e xs (.own (ren n0 to id))
  | .sl e xs .no => .sl e xs .no
  | .sl e xs .full => .sl e xs .full
  | .rsl id e off len => .rsl (ren n0 to id) e off len
  | .ptr id p t => .ptr (ren n0 to id) p t
  | .st vs => .st (renAs n0 to vs)
  | .fn f vs => .fn f (renAs n0 to vs)
  | .tup vs => .tup (renAs n0 to vs)
  | .undef => .undef
  | .int k n => .int k n
  | .bool b => .bool b
  | .str s => .str s
  | .arr n e xs => .arr n e xs
  | .cptr t d => .cptr t d
  | .nilp => .nilp
  | .nilfn => .nilfn
def renAs (n0 to : Nat) : List AV → List AV
  | [] => []
  | v :: vs => renA n0 to v :: renAs n0 to vs
end
def renB (n0 to : Nat) : Blk → Blk
  | .var t v fz => .var t (renA n0 to v) fz
  | b => b
def renH (n0 to : Nat) : Heap → Heap
  | [] => []
  | b :: r => renB n0 to b :: renH n0 to r
/-- New blocks, laid from a place on. -/
def lay : Heap → Nat → Heap → Heap
  | h, _, [] => h
  | h, i, b :: r => lay (h.set i b) (i + 1) r

/-! ### Arguments as data -/
mutual
def expo (h : Heap) : AV → AV
  | .sl e xs .full => .sl e xs .full
  | .sl e xs _ => .sl e xs .no
  | .rsl id e off len => match h.getD id .dead with
    | .fix _ xs _ => .sl e ((xs.drop off).take len) .no
    | _ => .undef
  | .st vs => .st (expos h vs)
  | .ptr _ _ _ => .undef
  | .fn f [] => .fn f []
  | .fn _ _ => .undef
  | .tup _ => .undef
  | .undef => .undef
  | .int k n => .int k n
  | .bool b => .bool b
  | .str s => .str s
  | .arr n e xs => .arr n e xs
  | .cptr t d => .cptr t d
  | .nilp => .nilp
  | .nilfn => .nilfn
def expos (h : Heap) : List AV → List AV
  | [] => []
  | v :: vs => expo h v :: expos h vs
end
mutual
/-- Can it be handed over as data? -/
def datA (h : Heap) : AV → Bool
  | .rsl id e _ _ => match h.getD id .dead with
    | .fix f _ _ => Ty.same f e
    | _ => false
  | .st vs => datAs h vs
  | .ptr _ _ _ => false
  | .fn _ [] => true
  | .fn _ _ => false
  | .tup _ => false
  | .undef => false
  | _ => true
def datAs (h : Heap) : List AV → Bool
  | [] => true
  | v :: vs => datA h v && datAs h vs
end
mutual
/-- The rows that a value shows. -/
def rids : AV → List Nat
  | .rsl id _ _ _ => [id]
  | .st vs => ridss vs
  | _ => []
def ridss : List AV → List Nat
  | [] => []
  | v :: vs => rids v ++ ridss vs
end
def frz : Heap → List Nat → Heap
  | h, [] => h
  | h, id :: r => match h.getD id .dead with
    | .fix e xs _ => frz (h.set id (.fix e xs true)) r
    | _ => frz h r

mutual
/-- No slice in it. -/
def flat : Ty → Bool
  | .sl _ => false
  | .st ts => flats ts
  | .arr _ e => flat e
  | .ptr => false
  | .fn => false
  | .op => false
  | _ => true
def flats : List Ty → Bool
  | [] => true
  | t :: ts => flat t && flats ts
end
def scalS : List D → Tok → Bool
  | [], .no => true
  | [], .full => true
  | _, _ => false
mutual
/-- Numbers and the like alone. -/
def plain : AV → Bool
  | .int .. => true
  | .bool _ => true
  | .str _ => true
  | .st vs => plains vs
  | _ => false
def plains : List AV → Bool
  | [] => true
  | v :: vs => plain v && plains vs
end
mutual
/-- A result that shows nothing of what it was made of. -/
def scal : AV → Bool
  | .int .. => true
  | .st vs => plains vs
  | .bool _ => true
  | .str _ => true
  | .sl _ xs t => scalS xs t
  | .tup vs => scals vs
  | .nilp => true
  | .nilfn => true
  | _ => false
def scals : List AV → Bool
  | [] => true
  | v :: vs => scal v && scals vs
end
def resvs (h : Heap) (i : Nat) : Nat → Bool
  | 0 => true
  | k + 1 => (match h.getD i .dead with | .resv => true | _ => false) && resvs h (i + 1) k

/-- The elements that an append takes. -/
def srcOf (e : Ty) (h : Heap) : AV → Option (List D)
  | .sl u ys _ => bif Ty.same u e then some ys else none
  | .rsl id u off len => bif Ty.same u e then (match h.getD id .dead with
    | .fix f xs _ => bif Ty.same f e then some ((xs.drop off).take len) else none
    | _ => none) else none
  | .str s => bif Ty.same e (.int .u8) then some (s.data.toList.map fun b => .i b.toNat) else none
  | _ => none

def putO (e : Env) (d : Option Nat) (v : AV) : Env := match d with
  | some d => put e d v
  | none => e
def flds : List PStep → Bool
  | [] => true
  | .fld _ :: p => flds p
  | .idx _ :: _ => false
abbrev roomy (n bs : Nat) : Prop := n * bs ≤ 140737488355328

/-! ### What a result holds on to -/
mutual
def idsA : AV → List Nat
  | .sl _ _ (.own id) => [id]
  | .rsl id _ _ _ => [id]
  | .ptr id _ _ => [id]
  | .st vs => idsAs vs
  | .fn _ vs => idsAs vs
  | .tup vs => idsAs vs
  | _ => []
def idsAs : List AV → List Nat
  | [] => []
  | v :: vs => idsA v ++ idsAs vs
end
def idsB : Blk → List Nat
  | .var _ v _ => idsA v
  | _ => []
def memN (x : Nat) : List Nat → Bool
  | [] => false
  | y :: r => Nat.beq y x || memN x r
def ded : List Nat → List Nat → List Nat
  | acc, [] => acc
  | acc, x :: r => bif memN x acc then ded acc r else ded (acc ++ [x]) r
def idx (x : Nat) : List Nat → Nat
  | [] => 0
  | y :: r => bif Nat.beq y x then 0 else idx x r + 1
def nodupN : List Nat → Bool
  | [] => true
  | x :: r => !(memN x r) && nodupN r
def allIn (ids rho : List Nat) : Bool := ids.all fun x => memN x rho
mutual
def pulA (rho : List Nat) : AV → AV
  | .sl e xs (.own id) => .sl e xs (.own (idx id rho))
  | .rsl id e off len => .rsl (idx id rho) e off len
  | .ptr id p t => .ptr (idx id rho) p t
  | .st vs => .st (pulAs rho vs)
  | .fn f vs => .fn f (pulAs rho vs)
  | .tup vs => .tup (pulAs rho vs)
  | .sl e xs .no => .sl e xs .no
  | .sl e xs .full => .sl e xs .full
  | .undef => .undef
  | .int k n => .int k n
  | .bool b => .bool b
  | .str s => .str s
  | .arr n e xs => .arr n e xs
  | .cptr t d => .cptr t d
  | .nilp => .nilp
  | .nilfn => .nilfn
def pulAs (rho : List Nat) : List AV → List AV
  | [] => []
  | v :: vs => pulA rho v :: pulAs rho vs
end
def pulB (rho : List Nat) : Blk → Blk
  | .var t v fz => .var t (pulA rho v) fz
  | b => b
def blks (h : Heap) : List Nat → List Blk
  | [] => []
  | id :: r => h.getD id .dead :: blks h r
def pulBs (rho : List Nat) : List Blk → Heap
  | [] => []
  | b :: r => pulB rho b :: pulBs rho r
def bids : List Blk → List Nat
  | [] => []
  | b :: r => idsB b ++ bids r
def setAll : Heap → List (Nat × Blk) → Heap
  | h, [] => h
  | h, (i, b) :: r => setAll (h.set i b) r
/-! ### Addresses, by a map -/
mutual
def gmA (f : Nat → Nat) : AV → AV
  | .sl e xs (.own id) => .sl e xs (.own (f id))
  | .rsl id e off len => .rsl (f id) e off len
  | .ptr id p t => .ptr (f id) p t
  | .st vs => .st (gmAs f vs)
  | .fn g vs => .fn g (gmAs f vs)
  | .tup vs => .tup (gmAs f vs)
  | .sl e xs .no => .sl e xs .no
  | .sl e xs .full => .sl e xs .full
  | .undef => .undef
  | .int k n => .int k n
  | .bool b => .bool b
  | .str s => .str s
  | .arr n e xs => .arr n e xs
  | .cptr t d => .cptr t d
  | .nilp => .nilp
  | .nilfn => .nilfn
def gmAs (f : Nat → Nat) : List AV → List AV
  | [] => []
  | v :: vs => gmA f v :: gmAs f vs
end
def gmB (f : Nat → Nat) : Blk → Blk
  | .var t v fz => .var t (gmA f v) fz
  | b => b
def pushW (f : Nat → Nat) : List Nat → Heap → List (Nat × Blk)
  | id :: r, b :: n => (id, gmB f b) :: pushW f r n
  | _, _ => []
def liveB : Blk → Bool
  | .var .. => true | .fix .. => true | .ext .. => true | _ => false
def liveAll : List Blk → Bool
  | [] => true
  | b :: r => liveB b && liveAll r
mutual
/-- Of capacities only what is one's own is told. -/
def drpO : AV → AV
  | .sl e xs (.own i) => .sl e xs (.own i)
  | .sl e xs _ => .sl e xs .no
  | .st vs => .st (drpOs vs)
  | .undef => .undef
  | .int k n => .int k n
  | .bool b => .bool b
  | .str s => .str s
  | .rsl i e o n => .rsl i e o n
  | .arr n e xs => .arr n e xs
  | .ptr i p t => .ptr i p t
  | .cptr t d => .cptr t d
  | .nilp => .nilp
  | .fn f vs => .fn f vs
  | .nilfn => .nilfn
  | .tup vs => .tup vs
def drpOs : List AV → List AV
  | [] => []
  | v :: vs => drpO v :: drpOs vs
end
/-- The blocks that values hold on to. -/
def rhoOf (vs : List AV) (h : Heap) : List Nat := ded (ded [] (idsAs vs)) (bids (blks h (ded [] (idsAs vs))))
def rhoOK (vs : List AV) (h : Heap) (rho : List Nat) : Bool := nodupN rho && allIn (idsAs vs) rho && allIn (bids (blks h rho)) rho && liveAll (blks h rho)
def mkArgs (base : Nat) : List (Nat × Nat × Ty) → List AV → Heap → Option (List AV × Heap)
  | [], vs, h => some (vs, h)
  | (j, off, e) :: r, vs, h => match vs.getD j .undef with
    | .sl u [] .full => bif Ty.same u e && Nat.blt 0 e.size then (match h.getD (base + off) .dead with
      | .resv => mkArgs base r (vs.set j (.sl e [] (.own (base + off)))) (h.set (base + off) (.ext e 0))
      | _ => none) else none
    | .sl _ _ (.own _) => mkArgs base r vs h
    | _ => none
/-- A call that is handed the blocks that its arguments hold on to. -/
def locK (orc : Orc) (f : FuncId) (vs : List AV) (h : Heap) (rho : List Nat) (k : AV → Heap → Prop) : Prop :=
  bif rhoOK vs h rho then (srK (orc.s f (drpOs (pulAs rho vs)) (pulBs rho (blks h rho))) fun q => match q with
    | .ok r n => bif Nat.beq n.length rho.length then k (gmA (fun i => rho.getD i 0) r) (setAll h (pushW (fun i => rho.getD i 0) rho n)) else False
    | .iff c r n => bif Nat.beq n.length rho.length then Nd c <| k (gmA (fun i => rho.getD i 0) r) (setAll h (pushW (fun i => rho.getD i 0) rho n)) else False
    | _ => False) else False

/-- A small number, as such. -/
def fId (n : Nat) (k : Nat → Prop) : Prop := match n with
  | 0 => k 0 | 1 => k 1 | 2 => k 2 | 3 => k 3 | 4 => k 4 | 5 => k 5 | 6 => k 6 | 7 => k 7 | 8 => k 8 | 9 => k 9 | 10 => k 10 | 11 => k 11 | 12 => k 12 | 13 => k 13 | 14 => k 14 | 15 => k 15
  | n => k n
theorem fId_eq (n : Nat) (k : Nat → Prop) : fId n k = k n := by unfold fId; split <;> rfl
def nrmP : List PStep → (List PStep → Prop) → Prop
  | [], k => k []
  | .fld i :: p, k => nrmP p fun p => k (.fld i :: p)
  | .idx i :: p, k => nrmP p fun p => k (.idx i :: p)
theorem nrmP_eq : ∀ (p : List PStep) (k : List PStep → Prop), nrmP p k = k p
  | [], k => rfl
  | .fld i :: p, k => by simp only [nrmP]; rw [nrmP_eq p]
  | .idx i :: p, k => by simp only [nrmP]; rw [nrmP_eq p]
mutual
/-- A value, its form laid open. -/
def nrm : AV → (AV → Prop) → Prop
  | .st vs, k => nrms vs fun vs => k (.st vs)
  | .tup vs, k => nrms vs fun vs => k (.tup vs)
  | .int a n, k => k (.int a n)
  | .bool b, k => k (.bool b)
  | .str b, k => k (.str b)
  | .sl e xs (.own i), k => fId i fun i => k (.sl e xs (.own i))
  | .sl e xs .no, k => k (.sl e xs .no)
  | .sl e xs .full, k => k (.sl e xs .full)
  | .rsl i e o n, k => fId i fun i => k (.rsl i e o n)
  | .arr n e xs, k => k (.arr n e xs)
  | .ptr i p t, k => fId i fun i => nrmP p fun p => k (.ptr i p t)
  | .cptr t d, k => k (.cptr t d)
  | .nilp, k => k .nilp
  | .fn f vs, k => nrms vs fun vs => k (.fn f vs)
  | .nilfn, k => k .nilfn
  | .undef, k => k .undef
def nrms : List AV → (List AV → Prop) → Prop
  | [], k => k []
  | v :: vs, k => nrm v fun v => nrms vs fun vs => k (v :: vs)
end
mutual
theorem nrm_eq : ∀ (v : AV) (k : AV → Prop), nrm v k = k v
  | .st vs, k => by simp only [nrm]; rw [nrms_eq vs]
  | .tup vs, k => by simp only [nrm]; rw [nrms_eq vs]
  | .fn f vs, k => by simp only [nrm]; rw [nrms_eq vs]
  | .sl e xs t, k => by cases t <;> simp only [nrm, fId_eq]
  | .int .., k | .bool _, k | .str _, k | .rsl .., k | .arr .., k | .ptr .., k | .cptr .., k | .nilp, k | .nilfn, k | .undef, k => by simp only [nrm, fId_eq, nrmP_eq]
theorem nrms_eq : ∀ (vs : List AV) (k : List AV → Prop), nrms vs k = k vs
  | [], k => by simp only [nrms]
  | v :: vs, k => by simp only [nrms]; rw [nrm_eq v, nrms_eq vs]
end
def nrmPs : List (Nat × AV) → (List (Nat × AV) → Prop) → Prop
  | [], k => k []
  | (i, v) :: r, k => nrm v fun v => nrmPs r fun r => k ((i, v) :: r)
theorem nrmPs_eq : ∀ (ps : List (Nat × AV)) (k : List (Nat × AV) → Prop), nrmPs ps k = k ps
  | [], k => rfl
  | (i, v) :: r, k => by simp only [nrmPs]; rw [nrm_eq v, nrmPs_eq r]
def nrmH : Heap → (Heap → Prop) → Prop
  | [], k => k []
  | .var t v fz :: r, k => nrm v fun v => nrmH r fun r => k (.var t v fz :: r)
  | .fix e xs fz :: r, k => nrmH r fun r => k (.fix e xs fz :: r)
  | .ext e n :: r, k => nrmH r fun r => k (.ext e n :: r)
  | .grw e n :: r, k => nrmH r fun r => k (.grw e n :: r)
  | .resv :: r, k => nrmH r fun r => k (.resv :: r)
  | .dead :: r, k => nrmH r fun r => k (.dead :: r)
theorem nrmH_eq : ∀ (h : Heap) (k : Heap → Prop), nrmH h k = k h
  | [], k => rfl
  | .var t v fz :: r, k => by simp only [nrmH]; rw [nrm_eq v, nrmH_eq r]
  | .fix e xs fz :: r, k => by simp only [nrmH]; rw [nrmH_eq r]
  | .ext e n :: r, k => by simp only [nrmH]; rw [nrmH_eq r]
  | .grw e n :: r, k => by simp only [nrmH]; rw [nrmH_eq r]
  | .resv :: r, k => by simp only [nrmH]; rw [nrmH_eq r]
  | .dead :: r, k => by simp only [nrmH]; rw [nrmH_eq r]

def fL : List Nat → (List Nat → Prop) → Prop
  | [], k => k []
  | x :: r, k => fId x fun x => fL r fun r => k (x :: r)
theorem fL_eq : ∀ (l : List Nat) (k : List Nat → Prop), fL l k = k l
  | [], k => rfl
  | x :: r, k => by simp only [fL]; rw [fId_eq, fL_eq r]

/-- Nil, or not known to be. -/
structure Eqn (xs : List D) (p q : Prop) : Prop where
  n : xs = [] → p
  s : q

def awpOp (orc : Orc) (base : Nat) (o : AOp) (env : Env) (h : Heap) (K : Env → Heap → Prop) : Prop :=
  match o with
  | .v d vo => match vop vo env with
    | .ok v => K (put env d v) h
    | .iff c v => Nd c <| K (put env d v) h
    | .bad => False
  | .load d t x => match x.ev env with
    | .cptr u c => bif Ty.same u t then K (put env d (ofD t c)) h else False
    | .ptr id p u => bif Ty.same u t then (match h.getD id .dead with
      | .var _ v _ => K (put env d (getA p v)) h
      | .fix e xs _ => match p with
        | .idx n :: q => K (put env d (getD' e q (xs.getD n (.i 0)))) h
        | _ => False
      | _ => False) else False
    | _ => False
  | .alloc d off t => match h.getD (base + off) .dead with
    | .resv => K (put env d (.ptr (base + off) [] t)) (h.set (base + off) (.var t (zeroA t) false))
    | _ => False
  | .box d off t x => match h.getD (base + off) .dead with
    | .resv => bif fitsV (x.ev env) t then K (put env d (.ptr (base + off) [] t)) (h.set (base + off) (.var t (x.ev env) false)) else False
    | _ => False
  | .lit d off e n ps fx => match h.getD (base + off) .dead with
    | .resv => bif fitPartsD e n (evps ps env) then nrmPs (evps ps env) fun qs =>
        (bif fx then (bif Nat.beq n 0 then K (put env d (.sl e [] .full)) h else K (put env d (.rsl (base + off) e 0 n)) (h.set (base + off) (.fix e (setPartsD (List.replicate n (zeroD e)) qs) false)))
         else K (put env d (.sl e (setPartsD (List.replicate n (zeroD e)) qs) (.own (base + off)))) (h.set (base + off) (.ext e n))) else False
    | _ => False
  | .make d off e bs l => bif Nat.ble 500 off then (match h.getD (base + (off - 500)) .dead, l.ev env with
      | .resv, .int _ n => Nd (0 ≤ n ∧ n * bs ≤ 281474976710656) <| K (put env d (.sl e (List.replicate n.toNat (zeroD e)) (.own (base + (off - 500))))) (h.set (base + (off - 500)) (.ext e n.toNat))
      | _, _ => False) else match h.getD (base + off) .dead, l.ev env with
    | .resv, .int _ n => Nd (0 ≤ n ∧ n * bs ≤ 281474976710656) <| K (put env d (.rsl (base + off) e 0 n.toNat)) (h.set (base + off) (.fix e (List.replicate n.toNat (zeroD e)) false))
    | _, _ => False
  | .app d off e bs s x fx => match srcOf e h (x.ev env), s.ev env with
    | some ys, .sl u xs tk => (match tk with
      | .own id => bif Ty.same u e then (match h.getD id .dead with
        | .ext f m => bif fx || !Ty.same f e then False
          else Nd (m = xs.length ∧ roomy (xs.length + ys.length) bs) <| K (put env d (.sl e (xs ++ ys) (.own id))) (h.set id (.ext e (xs.length + ys.length)))
        | _ => False) else False
      | .full => bif Ty.same u e then (match h.getD (base + off) .dead with
        | .resv => bif fx then Nd (xs.length = 0 ∧ 0 < ys.length ∧ roomy ys.length bs) <| K (put env d (.rsl (base + off) e 0 ys.length)) (h.set (base + off) (.fix e ys false))
          else Nd ((xs.length = 0 ∨ 0 < ys.length) ∧ roomy (xs.length + ys.length) bs) <| K (put env d (.sl e (xs ++ ys) (.own (base + off)))) (h.set (base + off) (.ext e (xs.length + ys.length)))
        | _ => False) else False
      | .no => False)
    | some ys, .rsl id u o2 len => match h.getD id .dead with
      | .grw f xs => bif fx || !Ty.same f e || !Nat.beq o2 0 then False
        else Nd (len = xs.length ∧ roomy (xs.length + ys.length) bs) <| K (put env d (.rsl id e 0 (xs.length + ys.length))) (h.set id (.grw e (xs ++ ys)))
      | _ => False
    | _, _ => False
  | .appz d off e bs s n => match s.ev env, n.ev env, h.getD (base + off) .dead with
    | .sl u xs .full, .int _ n, .resv => bif Ty.same u e then Nd (xs.length = 0 ∧ 0 < n ∧ roomy n.toNat bs) <| K (put env d (.rsl (base + off) e 0 n.toNat)) (h.set (base + off) (.fix e (List.replicate n.toNat (zeroD e)) false)) else False
    | _, _, _ => False
  | .store t x y => match x.ev env with
    | .ptr id p u => bif Ty.same u t && fitsV (y.ev env) t then nrm (y.ev env) fun y => (match h.getD id .dead with
      | .var T v false => bif flds p || fits y t then K env (h.set id (.var T (setA p v y) false)) else False
      | .fix e xs false => match p with
        | .idx n :: q => bif fits y t then K env (h.set id (.fix e (xs.set n (setD' e q (xs.getD n (.i 0)) y)) false)) else False
        | _ => False
      | _ => False) else False
    | _ => False
  | .mk d off e x => match x.ev env with
    | .sl u xs tk => (match tk with
      | .full => (match xs with
        | [] => bif Ty.same u e then (bif Nat.ble 500 off then (match h.getD (base + (off - 500)) .dead with
            | .resv => K (put env d (.rsl (base + (off - 500)) e 0 0)) (h.set (base + (off - 500)) (.grw e []))
            | _ => False) else match h.getD (base + off) .dead with
          | .resv => K (put env d (.sl e [] (.own (base + off)))) (h.set (base + off) (.ext e 0))
          | _ => False) else False
        | _ => False)
      | .own id => K (put env d (.sl u xs (.own id))) h
      | .no => False)
    | .rsl id u o2 len => match h.getD id .dead with
      | .grw f xs => bif Ty.same f e && Nat.beq o2 0 then (match h.getD (base + off) .dead with
        | .resv => Nd (len = xs.length ∧ 0 < len) <| K (put env d (.rsl (base + off) e 0 len)) ((h.set id .dead).set (base + off) (.fix e xs false))
        | _ => False) else False
      | _ => False
    | _ => False
  | .close d x => match x.ev env with
    | .rsl id u 0 len => match h.getD id .dead with
      | .fix e xs false => bif Ty.same u e then Nd (len = xs.length) <| K (put env d (.sl e xs (.own id))) (h.set id (.ext e xs.length)) else False
      | _ => False
    | _ => False
  | .trim d x hi => match x.ev env, hi.ev env with
    | .rsl id u 0 len, .int _ m => match h.getD id .dead with
      | .fix e xs false => bif Ty.same u e then Nd (len = xs.length ∧ m = 0) <| K (put env d (.sl e [] (.own id))) (h.set id (.ext e 0)) else False
      | _ => False
    | _, _ => False
  | .acut d n e x lo hi => match x.ev env with
    | .ptr id p u => bif Ty.same u (.arr n e) then (match h.getD id .dead with
      | .var T v _ => (match getA p v, optI lo env 0, optI hi env n with
        | .arr _ _ xs, some l, some k => Nd (cutOK l k n) <| K (put env d (.sl e ((xs.drop l.toNat).take (k.toNat - l.toNat)) .no)) (h.set id (.var T v true))
        | _, _, _ => False)
      | _ => False) else False
    | _ => False
  | .callP d f args off cnt fz => nrms (evs args env) fun vs => fL (ridss vs) fun ids => bif datAs h vs then (nrms (drpF (orc.fu f) (expos h vs)) fun ws => prK (orc.p f ws) fun q => match q with
    | .ok r n => bif (fz || ids.isEmpty || (scal r && n.isEmpty)) && Nat.ble n.length cnt && resvs h (base + off) n.length
      then K (putO env d (renA 0 (base + off) r)) (lay (bif fz then frz h ids else h) (base + off) (renH 0 (base + off) n)) else False
    | .iff c r n => bif (fz || ids.isEmpty || (scal r && n.isEmpty)) && Nat.ble n.length cnt && resvs h (base + off) n.length
      then Nd c <| K (putO env d (renA 0 (base + off) r)) (lay (bif fz then frz h ids else h) (base + off) (renH 0 (base + off) n)) else False
    | _ => False) else False
  | .callS d x args mks fs => match x.ev env with
    | .fn f caps => bif oneAs caps && fs.any (Nat.beq f) then (match mkArgs base mks (evs args env) h with
      | some (vs, h1) => nrms (vs ++ caps) fun vs => nrmH h1 fun h1 => fL (rhoOf vs h1) fun rho => locK orc f vs h1 rho fun r h2 => K (putO env d r) h2
      | none => False) else False
    | _ => False
  | .eqnil d neg x => match x.ev env with
    | .sl _ xs _ => Eqn xs (K (put env d (.bool (!neg))) h) (K (put env d (.bool neg)) h)
    | _ => False
  | .cap d x => match x.ev env with
    | .sl _ xs .full => K (put env d (.int .i64 xs.length)) h
    | _ => False
  | .boxc d t x => bif fits (x.ev env) t then nrm (x.ev env) fun v => K (put env d (.cptr t (toD v))) h else False
  | .stop _ => False

def AOp.dst : AOp → Option Nat
  | .v d _ | .load d _ _ | .alloc d _ _ | .box d _ _ _ | .lit d _ _ _ _ _ | .make d _ _ _ _ | .app d _ _ _ _ _ _ | .appz d _ _ _ _ _ | .mk d _ _ _ | .close d _ | .trim d _ _ | .acut d _ _ _ _ _ | .eqnil d _ _ | .cap d _ | .boxc d _ _ => some d
  | .callP d _ _ _ _ _ | .callS d _ _ _ _ => d
  | .store _ _ _ => none
  | .stop d => d

/-- Is a bool that it gives to be named? -/
def AOp.gens : AOp → Bool
  | .v _ (.move _) => false
  | .v _ (.drop _) => false
  | .v _ (.pick _ _ _) => false
  | .v _ _ => true
  | .load _ _ _ => true
  | .callP .. => true
  | .callS .. => true
  | _ => false
def Cont (g : Bool) (e : Env) (k : Env → Prop) : Prop := match e with
  | (d, v) :: r => nrm v fun v => (match g, v with
    | true, .bool b => Bo b fun c => k ((d, .bool c) :: r)
    | _, v => k ((d, v) :: r))
  | [] => k []
theorem Cont.use {g : Bool} {e : Env} {k : Env → Prop} (h : Cont g e k) : k e := by
  unfold Cont at h
  split at h
  · rw [nrm_eq] at h
    split at h
    · exact h.p
    · exact h
  · exact h

/-! What follows, under names: so the kernel need not look into it. -/
def kenv (f : Env → Heap → (Env → Heap → Prop) → Prop) (h : Heap) (K : Env → Heap → Prop) : Env → Prop := fun e => f e h K
def kops (f : Env → Heap → (Env → Heap → Prop) → Prop) (g : Bool) (K : Env → Heap → Prop) : Env → Heap → Prop := fun e h => Cont g e (kenv f h K)

/-- Operations, one behind the other; each may hang on a bool. -/
def awpOps (orc : Orc) (base : Nat) : List (Option (Nat × Bool) × AOp) → Env → Heap → (Env → Heap → Prop) → Prop
  | [], env, h, K => K env h
  | (none, o) :: r, env, h, K => awpOp orc base o env h (kops (awpOps orc base r) o.gens K)
  | (some (t, want), o) :: r, env, h, K => match get env t with
    | .bool b => Br b
      (bif want then awpOp orc base o env h (kops (awpOps orc base r) o.gens K) else awpOps orc base r (putO env o.dst (.tup [])) h K)
      (bif want then awpOps orc base r (putO env o.dst (.tup [])) h K else awpOp orc base o env h (kops (awpOps orc base r) o.gens K))
    | .tup [] => awpOps orc base r (putO env o.dst (.tup [])) h K
    | _ => False

/-! ### Operations whose order is open -/
/-- What an operation comes to: a condition, a value, the blocks that it writes, the blocks that it reads. -/
inductive OT where
  | none | one (c : Prop) (v : AV) (ws : List (Nat × Blk)) (rs : List Nat) | br (b : Bool) (x y : OT)
def OT.res : OT → OT
  | .br b x y => bif b then x.res else y.res
  | q => q
def otK : OT → (OT → Prop) → Prop
  | .br b x y, k => Br b (otK x k) (otK y k)
  | .one c v ws rs, k => k (.one c v ws rs)
  | .none, k => k .none
theorem otK_iff : ∀ (q : OT) (k : OT → Prop), otK q k ↔ k q.res
  | .br b x y, k => by
    simp only [otK, OT.res]
    constructor
    · intro h
      cases b with
      | true => exact (otK_iff x k).1 (h.t rfl)
      | false => exact (otK_iff y k).1 (h.f (by simp))
    · intro h
      refine ⟨fun hb => ?_, fun hb => ?_⟩
      · subst hb; exact (otK_iff x k).2 h
      · have hb : b = false := by simpa using hb
        subst hb; exact (otK_iff y k).2 h
  | .one _ _ _ _, k | .none, k => by simp only [otK, OT.res]
def prOT : PR → (Prop → AV → Heap → OT) → OT
  | .ok r n, k => k True r n
  | .iff c r n, k => k c r n
  | .bad, _ => .none
  | .br b x y, k => .br b (prOT x k) (prOT y k)
def srOT : SR → (Prop → AV → Heap → OT) → OT
  | .ok r n, k => k True r n
  | .iff c r n, k => k c r n
  | .bad, _ => .none
  | .br b x y, k => .br b (srOT x k) (srOT y k)
def layW : Nat → Heap → List (Nat × Blk)
  | _, [] => []
  | i, b :: r => (i, b) :: layW (i + 1) r
def frzW (h : Heap) : List Nat → List (Nat × Blk)
  | [] => []
  | id :: r => match h.getD id .dead with
    | .fix e xs _ => (id, .fix e xs true) :: frzW h r
    | _ => frzW h r
def srcIds : AV → List Nat
  | .rsl id _ _ _ => [id]
  | _ => []
def callOT (orc : Orc) (b : Bool) (f : FuncId) (i : Nat) (vs : List AV) (h : Heap) (rho : List Nat) : OT :=
  bif b && rhoOK vs h rho && memN i rho then
    srOT (orc.s f (drpOs (pulAs rho vs)) (pulBs rho (blks h rho))) fun c r n =>
      bif Nat.beq n.length rho.length then .one c (gmA (fun i => rho.getD i 0) r) (pushW (fun i => rho.getD i 0) rho n) rho else .none
  else .none
def oout (orc : Orc) (base : Nat) (o : AOp) (env : Env) (h : Heap) : OT := match o with
  | .v d vo => match vop vo env with
    | .ok v => .one True v [] []
    | .iff c v => .one c v [] []
    | .bad => .none
  | .load d t x => match x.ev env with
    | .cptr u c => bif Ty.same u t then .one True (ofD t c) [] [] else .none
    | .ptr id p u => bif Ty.same u t then (match h.getD id .dead with
      | .var _ v _ => .one True (getA p v) [] [id]
      | .fix e xs _ => match p with
        | .idx n :: q => .one True (getD' e q (xs.getD n (.i 0))) [] [id]
        | _ => .none
      | _ => .none) else .none
    | _ => .none
  | .alloc d off t => match h.getD (base + off) .dead with
    | .resv => .one True (.ptr (base + off) [] t) [(base + off, .var t (zeroA t) false)] []
    | _ => .none
  | .box d off t x => match h.getD (base + off) .dead with
    | .resv => bif fitsV (x.ev env) t then .one True (.ptr (base + off) [] t) [(base + off, .var t (x.ev env) false)] [] else .none
    | _ => .none
  | .lit d off e n ps fx => match h.getD (base + off) .dead with
    | .resv => bif fitPartsD e n (evps ps env) then
        (bif fx then (bif Nat.beq n 0 then .one True (.sl e [] .full) [] [base + off] else .one True (.rsl (base + off) e 0 n) [(base + off, .fix e (setPartsD (List.replicate n (zeroD e)) (evps ps env)) false)] [])
         else .one True (.sl e (setPartsD (List.replicate n (zeroD e)) (evps ps env)) (.own (base + off))) [(base + off, .ext e n)] []) else .none
    | _ => .none
  | .make d off e bs l => bif Nat.ble 500 off then .none else match h.getD (base + off) .dead, l.ev env with
    | .resv, .int _ n => .one (0 ≤ n ∧ n * bs ≤ 281474976710656) (.rsl (base + off) e 0 n.toNat) [(base + off, .fix e (List.replicate n.toNat (zeroD e)) false)] []
    | _, _ => .none
  | .app d off e bs s x fx => match srcOf e h (x.ev env), s.ev env with
    | some ys, .sl u xs (.own id) => bif Ty.same u e then (match h.getD id .dead with
      | .ext f m => bif fx || !Ty.same f e then .none
        else .one (m = xs.length ∧ roomy (xs.length + ys.length) bs) (.sl e (xs ++ ys) (.own id)) [(id, .ext e (xs.length + ys.length))] (srcIds (x.ev env))
      | _ => .none) else .none
    | some ys, .sl u xs .full => bif Ty.same u e then (match h.getD (base + off) .dead with
      | .resv => bif fx then .one (xs.length = 0 ∧ 0 < ys.length ∧ roomy ys.length bs) (.rsl (base + off) e 0 ys.length) [(base + off, .fix e ys false)] (srcIds (x.ev env))
        else .one ((xs.length = 0 ∨ 0 < ys.length) ∧ roomy (xs.length + ys.length) bs) (.sl e (xs ++ ys) (.own (base + off))) [(base + off, .ext e (xs.length + ys.length))] (srcIds (x.ev env))
      | _ => .none) else .none
    | _, _ => .none
  | .store t x y => match x.ev env with
    | .ptr id p u => bif Ty.same u t && fitsV (y.ev env) t then (match h.getD id .dead with
      | .var T v false => bif flds p || fits (y.ev env) t then .one True .undef [(id, .var T (setA p v (y.ev env)) false)] [] else .none
      | .fix e xs false => match p with
        | .idx n :: q => bif fits (y.ev env) t then .one True .undef [(id, .fix e (xs.set n (setD' e q (xs.getD n (.i 0)) (y.ev env))) false)] [] else .none
        | _ => .none
      | _ => .none) else .none
    | _ => .none
  | .mk d off e x => match x.ev env with
    | .sl u [] .full => bif Ty.same u e && !Nat.ble 500 off then (match h.getD (base + off) .dead with
      | .resv => .one True (.sl e [] (.own (base + off))) [(base + off, .ext e 0)] []
      | _ => .none) else .none
    | .sl u xs (.own id) => .one True (.sl u xs (.own id)) [] []
    | _ => .none
  | .close d x => match x.ev env with
    | .rsl id u 0 len => match h.getD id .dead with
      | .fix e xs false => bif Ty.same u e then .one (len = xs.length) (.sl e xs (.own id)) [(id, .ext e xs.length)] [] else .none
      | _ => .none
    | _ => .none
  | .acut d n e x lo hi => match x.ev env with
    | .ptr id p u => bif Ty.same u (.arr n e) then (match h.getD id .dead with
      | .var T v _ => (match getA p v, optI lo env 0, optI hi env n with
        | .arr _ _ xs, some l, some k => .one (cutOK l k n) (.sl e ((xs.drop l.toNat).take (k.toNat - l.toNat)) .no) [(id, .var T v true)] []
        | _, _, _ => .none)
      | _ => .none) else .none
    | _ => .none
  | .callP d f args off cnt fz => bif datAs h (evs args env) then prOT (orc.p f (drpF (orc.fu f) (expos h (evs args env)))) fun c r n =>
      bif (fz || (ridss (evs args env)).isEmpty || (scal r && n.isEmpty)) && Nat.ble n.length cnt && resvs h (base + off) n.length
      then .one c (renA 0 (base + off) r) ((bif fz then frzW h (ridss (evs args env)) else []) ++ layW (base + off) (renH 0 (base + off) n)) (ridss (evs args env)) else .none
    else .none
  | .callS d x args mks fs => match x.ev env, mks with
    | .fn f caps, [] => bif oneAs caps && fs.any (Nat.beq f) && rhoOK (evs args env ++ caps) h (rhoOf (evs args env ++ caps) h) then
        srOT (orc.s f (drpOs (pulAs (rhoOf (evs args env ++ caps) h) (evs args env ++ caps))) (pulBs (rhoOf (evs args env ++ caps) h) (blks h (rhoOf (evs args env ++ caps) h)))) fun c r n =>
          bif Nat.beq n.length (rhoOf (evs args env ++ caps) h).length then .one c (gmA (fun i => (rhoOf (evs args env ++ caps) h).getD i 0) r) (pushW (fun i => (rhoOf (evs args env ++ caps) h).getD i 0) (rhoOf (evs args env ++ caps) h) n) (rhoOf (evs args env ++ caps) h) else .none
      else .none
    | .fn f caps, [(j, off, el)] => match (evs args env).getD j .undef with
      | .sl u [] .full => bif Ty.same u el && Nat.blt 0 el.size then (match h.getD (base + off) .dead with
        | .resv => callOT orc (oneAs caps && fs.any (Nat.beq f)) f (base + off) ((evs args env).set j (.sl el [] (.own (base + off))) ++ caps) (h.set (base + off) (.ext el 0))
            (rhoOf ((evs args env).set j (.sl el [] (.own (base + off))) ++ caps) (h.set (base + off) (.ext el 0)))
        | _ => .none) else .none
      | _ => .none
    | _, _ => .none
  | .cap d x => match x.ev env with
    | .sl _ xs .full => .one True (.int .i64 xs.length) [] []
    | _ => .none
  | .boxc d t x => bif fits (x.ev env) t then .one True (.cptr t (toD (x.ev env))) [] [] else .none
  | .appz .. => .none
  | .trim .. => .none
  | .eqnil .. => .none
  | .stop _ => .none

def inN (x : Nat) : List Nat → Bool
  | [] => false
  | y :: r => Nat.beq x y || inN x r
def meets : List Nat → List Nat → Bool
  | [], _ => false
  | x :: r, ys => inN x ys || meets r ys
/-- What operations did, by their places. -/
abbrev Fp := Nat × List Nat × List Nat
def okFp (ws rs pre : List Nat) : List Fp → Bool
  | [] => true
  | (i, w, r) :: acc => (!(meets w ws || meets w rs || meets r ws) || inN i pre) && okFp ws rs pre acc
abbrev GD := Option (Nat × Bool) × AOp
def kds (f : List Fp → Env → Heap → (Env → Heap → Prop) → Prop) (g : Bool) (dst : Option Nat) (k : Nat) (prek : List Nat) (acc : List Fp) (env : Env) (h : Heap) (K : Env → Heap → Prop) : OT → Prop := fun q => match q with
  | .one c v ws rs => bif okFp (ws.map (·.1)) rs prek acc then Nd c (Cont g (putO env dst v) (kenv (f ((k, ws.map (·.1), rs) :: acc)) (setAll h ws) K)) else False
  | _ => False
def awpDs (orc : Orc) (base : Nat) (pre : List (List Nat)) : List GD → Nat → List Fp → Env → Heap → (Env → Heap → Prop) → Prop
  | [], _, _, env, h, K => K env h
  | (none, o) :: r, k, acc, env, h, K => otK (oout orc base o env h) (kds (awpDs orc base pre r (k + 1)) o.gens o.dst k (pre.getD k []) acc env h K)
  | (some (t, want), o) :: r, k, acc, env, h, K => match get env t with
    | .bool b => Br b
      (bif want then otK (oout orc base o env h) (kds (awpDs orc base pre r (k + 1)) o.gens o.dst k (pre.getD k []) acc env h K) else awpDs orc base pre r (k + 1) acc (putO env o.dst (.tup [])) h K)
      (bif want then awpDs orc base pre r (k + 1) acc (putO env o.dst (.tup [])) h K else otK (oout orc base o env h) (kds (awpDs orc base pre r (k + 1)) o.gens o.dst k (pre.getD k []) acc env h K))
    | .tup [] => awpDs orc base pre r (k + 1) acc (putO env o.dst (.tup [])) h K
    | _ => False

inductive AC where
  | skip
  | region (n : Nat) (ops : List (Option (Nat × Bool) × AOp))
  | tregion (d n : Nat) (ops : List (Option (Nat × Bool) × AOp))
  | draw (n : Nat) (pre : List (List Nat)) (par : List GD) (tail : List GD)
  | seq (a b : AC)
  | cond (x : Ar) (a b : AC)
  | block (id : Nat) (a : AC)
  | loop (live : List Nat) (a : AC)
  | exit (id : Nat)
  | ret

inductive Out where
  | next | exit (id : Nat) | ret

/-- The end of a round. -/
def nrmE : Env → (Env → Prop) → Prop
  | [], k => k []
  | (t, v) :: r, k => nrm v fun v => nrmE r fun r => k ((t, v) :: r)
theorem nrmE_eq : ∀ (e : Env) (k : Env → Prop), nrmE e k = k e
  | [], k => rfl
  | (t, v) :: r, k => by simp only [nrmE]; rw [nrm_eq v, nrmE_eq r]
structure Nx (live : List Nat) (n : Nat) (J : Env → Heap → Prop) (e : Env) (h : Heap) : Prop where
  len : Nat.ble n h.length = true
  lo : lowE n (restr live e) = true
  lh : lowH n (h.take n) = true
  k : nrmE (restr live e) fun e => nrmH (h.take n) fun h => J e h
theorem Nx.j {live : List Nat} {n : Nat} {J : Env → Heap → Prop} {e : Env} {h : Heap} (x : Nx live n J e h) : J (restr live e) (h.take n) := by
  have := x.k
  rwa [nrmE_eq, nrmH_eq] at this
theorem J_of {J : Env → Heap → Prop} {e e' : Env} {h h' : Heap} (hj : J e h) (he : e' = e) (hh : h' = h) : J e' h' := by rw [he, hh]; exact hj
def klp (live : List Nat) (n : Nat) (J : Env → Heap → Prop) (K : Out → Env → Heap → Prop) : Out → Env → Heap → Prop := fun o e h => match o with
  | .next => Nx live n J e h
  | o => K o e h
def kseq (f : Env → Heap → (Out → Env → Heap → Prop) → Prop) (K : Out → Env → Heap → Prop) : Out → Env → Heap → Prop := fun o e h => match o with
  | .next => f e h K
  | o => K o e h
def kblk (id : Nat) (K : Out → Env → Heap → Prop) : Out → Env → Heap → Prop := fun o e h => match o with
  | .exit i => bif Nat.beq i id then K .next e h else K (.exit i) e h
  | o => K o e h
def ktl (orc : Orc) (b : Nat) (tail : List GD) (K : Env → Heap → Prop) : Env → Heap → Prop := fun e h => nrmH h fun h => awpOps orc b tail e h K
/-- A loop: what holds at its head, and what falls. -/
structure Lp (live : List Nat) (env : Env) (h : Heap) (body : Env → Heap → (Out → Env → Heap → Prop) → Prop) (K : Out → Env → Heap → Prop) : Prop where
  p : ∃ (I : Env → Heap → Prop) (m : Env → Heap → Nat), I (restr live env) h ∧
      ∀ e h1, h1.length = h.length → I e h1 → body e h1 (klp live h.length (fun e2 h2 => I e2 h2 ∧ m e2 h2 < m e h1) K)

/-- A row that grew becomes one that is written. -/
def thawK : AV → Heap → (Heap → AV → Prop) → Prop
  | .rsl id u o len, h, k => match h.getD id .dead with
    | .grw f xs => bif Nat.beq o 0 then Nd (len = xs.length ∧ 0 < len) <| nrmH (((h ++ [Blk.resv]).set id .dead).set h.length (.fix f xs false)) fun h1 => fId h.length fun i => k h1 (.rsl i f 0 len) else False
    | _ => False
  | _, _, _ => False
def awp (orc : Orc) : AC → Env → Heap → (Out → Env → Heap → Prop) → Prop
  | .skip, env, h, K => K .next env h
  | .region n ops, env, h, K => nrmH (h ++ List.replicate n .resv) fun h1 => fId h.length fun b => awpOps orc b ops env h1 (K .next)
  | .tregion d n ops, env, h, K => thawK (get env d) h fun (h0 : Heap) v => nrmH (h0 ++ List.replicate n Blk.resv) fun h1 => fId h0.length fun b => awpOps orc b ops (put env d v) h1 (K .next)
  | .draw n pre par tail, env, h, K => nrmH (h ++ List.replicate n .resv) fun h1 => fId h.length fun b => awpDs orc b pre par 0 [] env h1 (ktl orc b tail (K .next))
  | .seq a b, env, h, K => awp orc a env h (kseq (awp orc b) K)
  | .cond x a b, env, h, K => match x.ev env with
    | .bool c => Br c (awp orc a env h K) (awp orc b env h K)
    | _ => False
  | .block id a, env, h, K => awp orc a env h (kblk id K)
  | .loop live a, env, h, K => Lp live env h (awp orc a) K
  | .exit id, env, h, K => K (.exit id) env h
  | .ret, env, h, K => K .ret env h
end Go.Vc
