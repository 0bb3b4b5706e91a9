/- Operations on memory, part J: append. -/
import Derived.Test.YtgcakbnkeiajeaaVcOpI
import Derived.Deep.AppendSrc
set_option linter.unusedVariables false
set_option linter.unusedSimpArgs false
namespace Go.Vc

def slOrStr (P : Program) (t : TypeId) : Bool := match P.underlying t with
  | some (.slice _) => true
  | some .string => true
  | _ => false
def callOf (b : Builtin) (c : Call) : Bool := match c.callee with
  | .builtin x => decide (x = b)
  | _ => false

section
variable {P : Program} {w : World} {S : SetS} {mu : Mu} {H : Heap} {env : Env} {a : Act} {nt : Nat} {K : Env → Heap → Prop}

theorem slOrStr_kind {t : TypeId} (h : slOrStr P t = true) : (∃ e', P.underlying t = some (.slice e')) ∨ P.underlying t = some .string := by
  unfold slOrStr at h
  split at h
  · rename_i e' h'; exact .inl ⟨e', h'⟩
  · rename_i h'; exact .inr h'
  · cases h

theorem RelL_of_elems {sz : Nat} {R : List Value → D → Prop} {cells : List Value} {xs : List D} (h : ∀ (j : Nat) (x : D), xs[j]? = some x → R ((cells.drop (j * sz)).take sz) x) (hl : xs.length * sz ≤ cells.length) :
    ∀ (off k : Nat), off + k ≤ xs.length → RelL sz R ((cells.drop (off * sz)).take (k * sz)) ((xs.drop off).take k)
  | off, 0, _ => by simp [RelL]
  | off, k + 1, hk => by
    have ih := RelL_of_elems h hl off k (by omega)
    have hx := h (off + k) _ (getD_of (show off + k < xs.length by omega))
    have h1 : (off + k + 1) * sz ≤ xs.length * sz := Nat.mul_le_mul_right _ (by omega)
    have h2 : (off + k + 1) * sz = off * sz + (k * sz + sz) := by simp only [Nat.add_mul]; omega
    have h3 : (k + 1) * sz = k * sz + sz := by simp only [Nat.add_mul]; omega
    have h4 : (off + k) * sz = off * sz + k * sz := by simp only [Nat.add_mul]
    have e1 : (cells.drop (off * sz)).take ((k + 1) * sz) = (cells.drop (off * sz)).take (k * sz) ++ (cells.drop ((off + k) * sz)).take sz := by
      rw [h3, List.take_add, List.drop_drop, h4]
    have e2 : (xs.drop off).take (k + 1) = (xs.drop off).take k ++ [xs.getD (off + k) (.i 0)] := by
      rw [List.take_add_one, List.getElem?_drop, getD_of (show off + k < xs.length by omega)]
      rfl
    rw [e1, e2]
    exact RelL_append ih (RelL_one (by simp; omega) hx)

theorem RelS_cells {sz : Nat} {R : List Value → D → Prop} {ad : Option Addr} {n c : Nat} {xs : List D} (h : RelS w S sz R ad n c xs) (h0 : 0 < xs.length) :
    ∃ b o cells, ad = some ⟨b, o, none⟩ ∧ Lies w S b o cells ∧ cells.length = xs.length * sz ∧ RelL sz R cells xs := by
  obtain ⟨hl, hnc, hcm, hel⟩ := h
  obtain ⟨b, o', cs0, rfl, _⟩ := hel 0 _ (getD_of h0)
  have key : ∀ k, k ≤ xs.length → ∃ cells, Lies w S b o' cells ∧ cells.length = k * sz ∧ RelL sz R cells (xs.take k) := by
    intro k
    induction k with
    | zero => intro _; exact ⟨[], Lies.nil _ _, by simp, by simp [RelL]⟩
    | succ k ih =>
      intro hk
      obtain ⟨cells, g1, g2, g3⟩ := ih (by omega)
      obtain ⟨b2, o2, cs, e3, g4, g5, g6⟩ := hel k _ (getD_of (show k < xs.length by omega))
      injection e3 with e3
      injection e3 with e4 e5
      subst e4; subst e5
      refine ⟨cells ++ cs, g1.append (by rw [g2]; exact g4), by simp [g2, g5, Nat.add_mul], ?_⟩
      rw [List.take_add_one, List.getElem?_eq_getElem (show k < xs.length by omega)]
      have : xs.getD k (.i 0) = xs[k] := by rw [List.getD_eq_getElem?_getD, List.getElem?_eq_getElem (show k < xs.length by omega)]; rfl
      rw [this] at g6
      exact RelL_append g3 (RelL_one g5 g6)
  obtain ⟨cells, g1, g2, g3⟩ := key xs.length (Nat.le_refl _)
  rw [List.take_length] at g3
  exact ⟨b, o', cells, rfl, g1, g2, g3⟩

theorem byteCells_rel (s : ByteArray) : ∀ (l : List UInt8), RelL 1 (RelD w S (.int .u8)) (l.map fun b => Value.int .u8 b.toNat) (l.map fun b => D.i b.toNat)
  | [] => by simp [RelL]
  | b :: l => ⟨[.int .u8 b.toNat], _, rfl, rfl, by
      simp only [RelD, D.int]
      refine ⟨trivial, ?_⟩
      have := b.toNat_lt
      simp [IntKind.has, IntKind.min, IntKind.max, IntKind.signed, IntKind.bits]
      omega, byteCells_rel s l⟩

theorem src_sound (hR : Rel nt w S mu H env a) {tx : TypeId} {e : Ty} {i : TypeInfo} (hk : slOrStr P tx = true) (hsz : i.size = e.size) {v : AV} {x : Value} (hr : RelV w S mu H v x) {ys : List D} (hs : srcOf e H v = some ys) :
    ∃ news, Src P i.size tx x ys.length news w ∧ RelL e.size (RelD w S e) news ys := by
  have kind := slOrStr_kind hk
  have hnone : ∀ (c : Nat), Src P i.size tx (.slice none 0 c) 0 [] w := fun c =>
    ⟨kind, fun _ => rfl, run_firstCells_none w i.size 0 0 c, run_firstCells_none w.drew i.size 0 0 c, by simp, fun _ h => by cases h⟩
  have hsome : ∀ (ad : Addr) (n c : Nat) (news : List Value), news.length = n * i.size → (∀ j u, news[j]? = some u → w.cell? (ad.add j) = some u) → (∀ u ∈ news, u.oneCell' = true) → Src P i.size tx (.slice (some ad) n c) n news w := fun ad n c news hl hn h1 =>
    ⟨kind, fun _ => rfl, run_firstCells_some w i.size n ad n c news hl hn, run_firstCells_some w.drew i.size n ad n c news hl (by simpa using hn), hl, h1⟩
  cases v <;> simp only [srcOf] at hs <;> first | (cases hs; done) | skip
  · -- a string
    rename_i s
    cases he : Ty.same e (.int .u8) with
    | false => simp [he] at hs
    | true =>
      have := Ty.same_eq _ _ he
      subst this
      simp only [he, cond_true, Option.some.injEq] at hs
      subst hs
      obtain ⟨rfl, _⟩ := hr.str
      refine ⟨byteCells s, ?_, byteCells_rel s _⟩
      have hl : (List.map (fun b : UInt8 => D.i b.toNat) s.data.toList).length = s.size := by rw [List.length_map, Array.length_toList]; rfl
      rw [hl, hsz]
      exact ⟨kind, fun _ => rfl, firstCells_string s w, firstCells_string s w.drew, by rw [byteCells_length, show (Ty.int IntKind.u8).size = 1 from rfl, Nat.mul_one], fun u hu => by
        obtain ⟨_, _, rfl⟩ := List.mem_map.1 hu
        rfl⟩
  · -- a tree
    rename_i u zs tk
    cases he : Ty.same u e with
    | false => simp [he] at hs
    | true =>
      have := Ty.same_eq _ _ he
      subst this
      simp only [he, cond_true, Option.some.injEq] at hs
      subst hs
      obtain ⟨ad, n, c, rfl, hrs, _⟩ := hr.sl
      have hn := hrs.1
      subst hn
      rcases Nat.eq_zero_or_pos zs.length with h0 | h0
      · have hz : zs = [] := List.length_eq_zero_iff.1 h0
        subst hz
        cases ad with
        | none => exact ⟨[], hnone c, by simp [RelL]⟩
        | some ad => exact ⟨[], hsome ad _ c [] (by simp) (by simp) (by simp), by simp [RelL]⟩
      · obtain ⟨b, o', cells, rfl, g1, g2, g3⟩ := RelS_cells hrs h0
        refine ⟨cells, hsome _ _ _ cells (by rw [hsz]; exact g2) (fun j u hj => ?_) (cells1_L (fun cs d hd => cells1_D _ cs d hd) _ _ g3), g3⟩
        rw [addr_add]
        exact (g1 j u hj).1
  · -- a row
    rename_i id u off len
    cases he : Ty.same u e with
    | false => simp [he] at hs
    | true =>
      have := Ty.same_eq _ _ he
      subst this
      simp only [he, cond_true] at hs
      cases hbk : H.getD id .dead with
      | fix f xs fz =>
        simp only [hbk] at hs
        cases hf : Ty.same f u with
        | false => simp [hf] at hs
        | true =>
          have := Ty.same_eq _ _ hf
          subst this
          simp only [hf, cond_true, Option.some.injEq] at hs
          subst hs
          have hb' := getD_blk hbk (by simp)
          obtain ⟨ad, c, rfl, hra⟩ := hr.rsl
          simp only [RelA] at hra
          obtain ⟨ad', c', q0, q1, q2, q3, blk, q4, q5, q6⟩ := hra
          injection q0 with q0
          injection q0 with q00 q01 q02
          subst q00; subst q02
          rw [hb'] at q4
          injection q4 with q4
          subst q4
          obtain ⟨_, hol, b, p1, p2, cells, ty, fr, p3, p4⟩ := q6 _ _ _ rfl
          obtain ⟨b', cells', ty', k1, k2, k3, k4, k5, k6⟩ := hR.heap.blk id _ hb'
          rw [p1] at k1
          injection k1 with k1
          subst k1
          rw [p3] at k2
          injection k2 with k2
          injection k2 with k21 k22 k23
          subst k21
          have hl : (List.take len (List.drop off xs)).length = len := by simp; omega
          rw [hl]
          rcases Nat.eq_zero_or_pos len with h0 | h0
          · subst h0
            cases ad with
            | none => exact ⟨[], hnone c, by simp [RelL]⟩
            | some ad => exact ⟨[], hsome ad _ c [] (by simp) (by simp) (by simp), by simp [RelL]⟩
          · have had := p2.resolve_left (by omega)
            subst had
            have hrl := RelL_of_elems k5 (by simpa using k4) off len hol
            have hfit : (off + len) * f.size ≤ cells.size := Nat.le_trans (Nat.mul_le_mul_right _ (by omega)) p4
            rw [Nat.add_mul] at hfit
            refine ⟨_, hsome _ _ _ _ (by rw [hsz]; simp; omega) (fun j u hj => ?_) (cells1_L (fun cs d hd => cells1_D _ cs d hd) _ _ hrl), hrl⟩
            have hjl : j < len * f.size := by
              rcases Nat.lt_or_ge j (len * f.size) with h | h
              · exact h
              · rw [List.getElem?_eq_none (by simp; omega)] at hj; cases hj
            rw [List.getElem?_take_of_lt hjl, List.getElem?_drop] at hj
            rw [addr_add, cell_of p3, ← Array.getElem?_toList]
            exact hj
      | var t v fz => simp only [hbk] at hs <;> cases hs
      | resv => simp only [hbk] at hs <;> cases hs
      | dead => simp only [hbk] at hs <;> cases hs
      | ext e n => simp only [hbk] at hs <;> cases hs

/-! ### What the model's append does -/
theorem run_app_stay {t te tx ty : TypeId} {i : TypeInfo} (ht : P.underlying t = some (.slice te)) (hi : P.info? te = some i) {ad : Option Addr} {n c : Nat} (hnc : n ≤ c) {x : Value} (hs : Src P i.size tx x 0 [] w) :
    (Builtin.append_ #[t, tx] ty #[.slice ad n c, x]).run P w = .ok (.slice ad n c) w := by
  cases ad <;> rcases hs.kind with ⟨e', hk⟩ | hk <;> simp [Builtin.append_, run_underlying ht, run_underlying hk, sizeOf, typeInfo, hi, hs.len, hnc, hs.cells, storeCells]

theorem run_app_room {t te tx ty : TypeId} {i : TypeInfo} (ht : P.underlying t = some (.slice te)) (hi : P.info? te = some i) {b n c : Nat} {cur : Array Value} {rt : TypeId} (hb : w.heap[b]? = some (.cells cur rt (0, 0)))
    {x : Value} {k : Nat} {news : List Value} (hs : Src P i.size tx x k news w) (hroom : n + k ≤ c) (hfit : c * i.size ≤ cur.size) :
    (Builtin.append_ #[t, tx] ty #[.slice (some ⟨b, 0, none⟩) n c, x]).run P w = .ok (.slice (some ⟨b, 0, none⟩) (n + k) c) (w.setRow b (over cur.toList (n * i.size) news).toArray) := by
  have hl := hs.newsLen
  have hle : (n + k) * i.size ≤ c * i.size := Nat.mul_le_mul_right _ hroom
  rw [Nat.add_mul] at hle
  have hst := run_storeCells_at P b (n * i.size) rt news 0 cur w hb (by omega) hs.one
  simp only [Nat.add_zero] at hst
  rcases hs.kind with ⟨e', hk⟩ | hk <;> simp [Builtin.append_, run_underlying ht, run_underlying hk, sizeOf, typeInfo, hi, hs.len, hroom, hs.cells, Addr.add_lit, hst, over]

theorem exec_append {o : Oper} {c : Call} {t tx : TypeId} {X Y : Operand} {v : Value} {w' : World} (ho : o.op = .call c) (hb : callOf .append c = true) (hargs : c.args.toList = [X, Y]) (hats : c.argTypes.toList = [t, tx])
    (hrun : ∀ ty, (Builtin.append_ #[t, tx] ty #[a.eval X, a.eval Y]).run P w = .ok v w') : (execOp a.eval o).run P w = .ok (.value v) w' := by
  obtain ⟨callee, args, ats⟩ := c
  have hargs' : args = #[X, Y] := by rw [← Array.toList_inj]; simpa using hargs
  have hats' : ats = #[t, tx] := by rw [← Array.toList_inj]; simpa using hats
  subst hargs'
  subst hats'
  cases callee <;> simp [callOf] at hb
  subst hb
  simp [execOp, ho, resolve, invoke, builtin, hrun]

/-- No room: a new row. -/
theorem run_app_grow {t te tx ty : TypeId} {e : Ty} {i : TypeInfo} {z : Value} (ht : P.underlying t = some (.slice te)) (hi : P.info? te = some i) (hz : i.zero = some z) (hzs : z.cells.size = e.size) (hsz : i.size = e.size) {ad : Option Addr} {n c : Nat} {xs : List D} (hrs : RelS w S e.size (RelD w S e) ad n c xs)
    {x : Value} {k : Nat} {news : List Value} {ys : List D} (hs : Src P i.size tx x k news w) (hnews : RelL e.size (RelD w S e) news ys) (hk : k = ys.length) (hg : c < n + k) (hby : 0 < i.bytes) (hroom : (n + k) * i.bytes ≤ 140737488355328) :
    ∃ cap cells, (Builtin.append_ #[t, tx] ty #[.slice ad n c, x]).run P w = .ok (.slice (some ⟨w.heap.size, 0, none⟩) (n + k) cap) { w.alloc (.cells cells te) with drawn := w.drawn + 1 } ∧
      (∃ front post, cells.toList = front ++ post ∧ RelL e.size (RelD w S e) front (xs ++ ys)) ∧ n + k ≤ cap ∧ cap ≤ maxLen ∧ cap * e.size ≤ cells.size := by
  have hle : n + k ≤ 140737488355328 := by
    have : (n + k) * 1 ≤ (n + k) * i.bytes := Nat.mul_le_mul_left _ hby
    omega
  have hold : ∃ olds, (Builtin.firstCells i.size n (.slice ad n c)).run P w.drew = .ok olds.toArray w.drew ∧ RelL e.size (RelD w S e) olds xs := by
    have hn := hrs.1
    rcases Nat.eq_zero_or_pos xs.length with h0 | h0
    · have hx : xs = [] := List.length_eq_zero_iff.1 h0
      subst hx
      have hn0 : n = 0 := by simpa using hn.symm
      subst hn0
      cases ad with
      | none => exact ⟨[], run_firstCells_none w.drew i.size 0 0 c, by simp [RelL]⟩
      | some ad => exact ⟨[], run_firstCells_some w.drew i.size 0 ad 0 c [] (by simp) (by simp), by simp [RelL]⟩
    · obtain ⟨b, o', cells, rfl, g1, g2, g3⟩ := RelS_cells hrs h0
      refine ⟨cells, run_firstCells_some w.drew i.size n _ n c cells (by rw [hsz, ← hn]; exact g2) (fun j u hj => ?_), g3⟩
      rw [addr_add]
      exact (g1 j u hj).1
  obtain ⟨olds, h1, h2⟩ := hold
  have hrun := run_append_grow_src (P := P) w t tx ty te i z ht hi hz ad n c olds h1 x k news hs hg (by omega) (growslice_fits hg hroom)
  have hge := grownCap_ge w (n + k) c te
  refine ⟨grownCap w (n + k) c te, _, hrun, ⟨olds ++ news, (Builtin.zeroCells z.cells (grownCap w (n + k) c te - (n + k))).toList, by simp, RelL_append h2 hnews⟩, hge, grownCap_le_maxLen w (n + k) c te (by simp [maxLen]; omega), ?_⟩
  have hl1 := h2.length
  have hl2 := hnews.length
  have hn := hrs.1
  simp only [Array.size_append, List.size_toArray, List.length_append, Builtin.zeroCells, Array.size_map, Array.size_range, hl1, hl2, hzs]
  rw [← hk, hn, ← Nat.add_mul, ← Nat.add_mul]
  exact Nat.mul_le_mul_right _ (by omega)

theorem set_self {H : Heap} {id : Nat} {b : Blk} (h : H[id]? = some b) : H.set id b = H := by
  apply List.ext_getElem?
  intro j
  rw [set_get (lt_of_get h)]
  by_cases hj : j = id
  · subst hj; simp [h]
  · simp [hj]

theorem op_app (hR : Rel nt w S mu H env a) {o : Oper} {d off bs : Nat} {e : Ty} {s x : Ar} {fx : Bool} {c : Call} {t tx : TypeId} {X Y : Operand} (ho : o.op = .call c) (hb : callOf .append c = true) (hargs : c.args.toList = [X, Y]) (hats : c.argTypes.toList = [t, tx])
    (hk : slOrStr P tx = true) (he : elOK P t e = true) (hbs : elBytes P t bs = true) (hbp : Nat.blt 0 bs = true) (hX : arOK X s = true) (hY : arOK Y x = true) (hd : dOK nt o.dst d = true)
    (orc : Orc) (base : Nat) (hK : awpOp orc base (.app d off e bs s x fx) env H K) (Q : Exit → Act → World → Prop) : o.wp P a w (OpPost nt w S mu H K) Q := by
  have r1 := arOK_rel hR.env hX
  have r2 := arOK_rel hR.env hY
  obtain ⟨te, hu, hte, hz, hzo, hpos⟩ := elOK_und he
  obtain ⟨ie, z, hie, hiz, hzc⟩ := zero_info hz
  obtain ⟨ie', hie', hsz⟩ := info_size hte
  rw [hie] at hie'
  injection hie' with hie'
  subst hie'
  have hzs := zsize hzo hzc
  have hby : ie.bytes = bs := by
    unfold elBytes at hbs
    rw [hu] at hbs
    simp only [bytesOK, hie] at hbs
    simpa using hbs
  have hbp' : 0 < ie.bytes := by rw [hby]; simpa using hbp
  simp only [awpOp] at hK
  cases hys : srcOf e H (x.ev env) with
  | none => simp only [hys] at hK
  | some ys =>
    obtain ⟨news, hsrc, hnews⟩ := src_sound hR hk hsz r2 hys
    have hnl := hnews.length
    cases hsv : s.ev env <;> simp only [hys, hsv] at hK
    rename_i u xs tk
    rw [hsv] at r1
    obtain ⟨ad, n, cp, e1, hrs, htk⟩ := r1.sl
    have hn := hrs.1
    have hncp := hrs.2.1
    have hcpm := hrs.2.2.1
    have hgrow : u = e → roomy (xs.length + ys.length) bs → cp < n + ys.length → ∃ cap cells front post, (execOp a.eval o).run P w = .ok (.value (.slice (some ⟨w.heap.size, 0, none⟩) (xs ++ ys).length cap)) { w.alloc (.cells cells te) with drawn := w.drawn + 1 } ∧
        cells.toList = front ++ post ∧ RelL e.size (RelD w S e) front (xs ++ ys) ∧ (xs ++ ys).length ≤ cap ∧ cap ≤ maxLen ∧ cap * e.size ≤ cells.size := by
      intro hue hro hlt
      subst hue
      obtain ⟨cap, cells, q1, ⟨front, post, q2, q2'⟩, q3, q4, q5⟩ := run_app_grow (ty := 0) hu hie hiz hzs hsz hrs hsrc hnews rfl hlt hbp' (by rw [hby, ← hn]; exact hro)
      refine ⟨cap, cells, front, post, exec_append ho hb hargs hats (fun ty => ?_), q2, q2', by simp; omega, q4, q5⟩
      rw [e1, List.length_append, hn]
      exact q1
    have hstay : ys.length = 0 → (execOp a.eval o).run P w = .ok (.value (.slice ad n cp)) w := by
      intro h0
      have hnw : news = [] := List.length_eq_zero_iff.1 (by rw [hnl, h0, Nat.zero_mul])
      subst hnw
      rw [h0] at hsrc
      refine exec_append ho hb hargs hats (fun ty => ?_)
      rw [e1]
      exact run_app_stay hu hie hncp hsrc
    cases tk with
    | no => simp only at hK
    | own id =>
      simp only at hK
      cases hs : Ty.same u e with
      | false => simp [hs] at hK
      | true =>
        have hue := Ty.same_eq _ _ hs
        subst hue
        simp only [hs, cond_true] at hK
        cases hbk : H.getD id .dead with
        | ext f m =>
          simp only [hbk] at hK
          cases hfx : (fx || !Ty.same f u) with
          | true => simp [hfx] at hK
          | false =>
            simp only [hfx, cond_false] at hK
            obtain ⟨⟨hm, hro⟩, hK⟩ := hK
            have hb' := getD_blk hbk (by simp)
            obtain ⟨blk, t1, t2, t3⟩ := htk
            rw [hb'] at t1
            injection t1 with t1
            subst t1
            obtain ⟨rfl, hnm, t4⟩ := t3 _ _ rfl
            have t4 := t4 (by omega)
            rcases Nat.eq_zero_or_pos ys.length with h0 | h0
            · -- nothing is appended
              have hz : ys = [] := List.length_eq_zero_iff.1 h0
              subst hz
              have hbe : Blk.ext f (xs.length + ([] : List D).length) = Blk.ext f m := by simp [hm]
              rw [hbe, set_self hb', List.append_nil] at hK
              refine wp_value hd (hstay rfl) hR (Ev.refl _ _ _ _) ?_ hK Q
              simp only [RelV, RelA]
              exact ⟨ad, n, cp, rfl, hrs, .ext f m, hb', rfl, t3⟩
            · rcases Nat.lt_or_ge cp (n + ys.length) with hlt | hge
              · -- a new row
                obtain ⟨cap, cells, front, post, q1, q2, q3, q4, q5, q6⟩ := hgrow rfl hro hlt
                refine op_grow' hR hd hb' (.inr ⟨_, rfl, .inr (by simp; omega)⟩) hpos ⟨w.drawn + 1, rfl⟩ q1 ⟨front, q2, q3⟩ q4 q5 q6 ?_ Q
                simpa using hK
              · -- there is room
                have hcp : ¬ cp = 0 := by omega
                obtain ⟨b, p1, p2, cells, ty, fr, p3, p4⟩ := t4.resolve_left hcp
                subst p2
                obtain ⟨_, hB⟩ := hR.heap.blk id _ hb'
                rcases hB with ⟨k1, k2⟩ | ⟨b', cells', ty', k1, k2, k3, k4⟩
                · rw [k2] at p1; cases p1
                · rw [p1] at k1
                  injection k1 with k1
                  subst k1
                  rw [p3] at k2
                  injection k2 with k2
                  injection k2 with k21 k22 k23
                  subst k21; subst k22; subst k23
                  have hfit : (n + ys.length) * f.size ≤ cells.size := Nat.le_trans (Nat.mul_le_mul_right _ hge) p4
                  have hadd : (n + ys.length) * f.size = n * f.size + ys.length * f.size := Nat.add_mul _ _ _
                  have hov : n * f.size + news.length ≤ cells.toList.length := by simp; omega
                  have hol := over_length hov
                  have hmn : m = n := by omega
                  subst hmn
                  obtain ⟨S', g1, g2, g3⟩ := row_turn hR (blk' := .ext f (m + ys.length)) (cur' := (over cells.toList (m * f.size) news).toArray) hb' rfl p1 p3 (by simpa using hol)
                    (fun o hs => by
                      have := k4 o hs
                      rw [← Array.getElem?_toList, ← Array.getElem?_toList]
                      show (over cells.toList (m * f.size) news)[o]? = _
                      rw [over_get _ _ _ hov, if_neg (by omega)])
                    (fun o => o < (m + ys.length) * f.size) (fun o ho => by
                      have : (over cells.toList (m * f.size) news).toArray.size = cells.size := by simpa using hol
                      omega) (.inr ⟨_, rfl, .inr (by omega)⟩)
                    (fun w' S' H' hc hT hS => ⟨hpos, .inr ⟨b, _, ty, p1, hc, by simp only [List.size_toArray, hol, Array.length_toList]; exact hfit, fun o hs => by
                      rcases (hS o).1 hs with hs | hs
                      · have := k4 o hs; omega
                      · exact hs⟩⟩)
                  have hnew : (w.setRow b (over cells.toList (m * f.size) news).toArray).heap[b]? = some (.cells (over cells.toList (m * f.size) news).toArray ty (0, 0)) := setRow_heap w b cells _ ty (0, 0) p3
                  have hrun : (execOp a.eval o).run P w = .ok (.value (.slice (some ⟨b, 0, none⟩) (m + ys.length) cp)) (w.setRow b (over cells.toList (m * f.size) news).toArray) := by
                    refine exec_append ho hb hargs hats (fun ty => ?_)
                    rw [e1, ← hsz]
                    exact run_app_room hu hie p3 hsrc hge (by rw [hsz]; exact p4)
                  have hlen : xs.length + ys.length = m + ys.length := by omega
                  rw [hlen] at hK
                  refine wp_value hd hrun g1 g2 ?_ hK Q
                  simp only [RelV, RelA]
                  refine ⟨some ⟨b, 0, none⟩, m + ys.length, cp, rfl, ⟨by simp; omega, hge, hcpm, fun j y hj => ?_⟩, .ext f (m + ys.length), by rw [set_get (lt_of_get hb'), if_pos rfl], rfl, ?_⟩
                  · rcases Nat.lt_or_ge j xs.length with hjl | hjl
                    · rw [List.getElem?_append_left hjl] at hj
                      obtain ⟨b2, o2, cs, r1, r2, r3, r4⟩ := hrs.2.2.2 j y hj
                      exact ⟨b2, o2, cs, r1, r2.mono g2.turn.stab, r3, RelD.mono g2.turn.stab _ _ _ r4⟩
                    · rw [List.getElem?_append_right hjl] at hj
                      obtain ⟨pre, cc, post', q0, q1, q2, q3⟩ := RelL_get hnews hj
                      refine ⟨b, 0, cc, rfl, fun k v hk => ?_, q2, RelD.mono g2.turn.stab _ _ _ q3⟩
                      have hkl : k < cc.length := by
                        rcases Nat.lt_or_ge k cc.length with h | h
                        · exact h
                        · rw [List.getElem?_eq_none h] at hk; cases hk
                      have hsum : news.length = pre.length + (cc.length + post'.length) := by rw [q0]; simp
                      have hjs : j * f.size = m * f.size + pre.length := by
                        rw [q1, ← Nat.add_mul]; congr 1; omega
                      refine ⟨?_, (g3 _).2 (.inr (by omega))⟩
                      rw [cell_of hnew, ← Array.getElem?_toList]
                      show (over cells.toList (m * f.size) news)[_]? = _
                      rw [over_get _ _ _ hov, if_pos (by omega), q0, List.getElem?_append_right (by omega), List.getElem?_append_left (by omega), ← hk]
                      congr 1
                      omega
                  · intro e' m' hh
                    injection hh with q1' q2'
                    subst q1'; subst q2'
                    exact ⟨rfl, Nat.le_refl _, fun _ => .inr ⟨b, p1, rfl, _, ty, _, hnew, by simp only [List.size_toArray, hol, Array.length_toList]; exact p4⟩⟩
        | var t v fz => simp only [hbk] at hK
        | resv => simp only [hbk] at hK
        | dead => simp only [hbk] at hK
        | fix e n fz => simp only [hbk] at hK
    | full =>
      simp only at hK
      cases hs : Ty.same u e with
      | false => simp [hs] at hK
      | true =>
        have hue := Ty.same_eq _ _ hs
        subst hue
        simp only [hs, cond_true] at hK
        have hcn : cp = n := htk
        cases hbk : H.getD (base + off) .dead with
        | resv =>
          simp only [hbk] at hK
          have hb' := getD_blk hbk (by simp)
          cases fx with
          | true =>
            simp only [cond_true] at hK
            obtain ⟨⟨hx0, hy0, hro⟩, hK⟩ := hK
            have hx : xs = [] := List.length_eq_zero_iff.1 hx0
            subst hx
            obtain ⟨cap, cells, front, post, q1, q2, q3, q4, q5, q6⟩ := hgrow rfl (by simpa using hro) (by omega)
            simp only [List.nil_append] at q1 q3 q4
            exact op_fix hR hd hb' hpos ⟨w.drawn + 1, rfl⟩ q1 ⟨front, q2, q3⟩ q4 q5 q6 hK Q
          | false =>
            simp only [cond_false] at hK
            obtain ⟨⟨hor, hro⟩, hK⟩ := hK
            rcases Nat.eq_zero_or_pos ys.length with h0 | h0
            · have hx0 : xs.length = 0 := by omega
              have hx : xs = [] := List.length_eq_zero_iff.1 hx0
              have hy : ys = [] := List.length_eq_zero_iff.1 h0
              subst hx; subst hy
              obtain ⟨mu', g1, g2⟩ := mk_turn hR hb' hpos
              refine wp_value hd (hstay rfl) g1 g2 ?_ hK Q
              simp only [RelV, RelA]
              simp at hn
              subst hn
              refine ⟨ad, 0, cp, rfl, ⟨rfl, by omega, hcpm, fun j y hj => by simp at hj⟩, .ext u 0, by rw [set_get (lt_of_get hb'), if_pos rfl], rfl, ?_⟩
              intro e' m' hh
              injection hh with q1' q2'
              subst q1'; subst q2'
              exact ⟨rfl, Nat.le_refl _, fun _ => .inl hcn⟩
            · obtain ⟨cap, cells, front, post, q1, q2, q3, q4, q5, q6⟩ := hgrow rfl hro (by omega)
              refine op_grow hR hd hb' hpos ⟨w.drawn + 1, rfl⟩ q1 ⟨front, q2, q3⟩ q4 q5 q6 ?_ Q
              simpa using hK
        | var t v fz => simp only [hbk] at hK
        | ext e n => simp only [hbk] at hK
        | dead => simp only [hbk] at hK
        | fix e n fz => simp only [hbk] at hK

/-- Zeros, appended to nothing. -/
theorem run_append_zeros {t te tx ty : TypeId} {e : Ty} {i : TypeInfo} {z : Value} {k : IntKind} (ht : P.underlying t = some (.slice te)) (hk : P.underlying tx = some (.int k)) (hi : P.info? te = some i) (hz : i.zero = some z) (hzs : z.cells.size = e.size) (hsz : i.size = e.size) (hpos : 0 < e.size) {n : Nat}
    (h0 : 0 < n) (hby : 0 < i.bytes) (hroom : n * i.bytes ≤ 140737488355328) {ad : Option Addr} {k' : IntKind} :
    (Builtin.append_ #[t, tx] ty #[.slice ad 0 0, .int k' n]).run P w = .ok (.slice (some ⟨w.heap.size, 0, none⟩) n (grownCap w n 0 te)) { w.alloc (.cells (Builtin.zeroCells z.cells n ++ Builtin.zeroCells z.cells (grownCap w n 0 te - n)) te) with drawn := w.drawn + 1 } := by
  have hle : n ≤ 140737488355328 := by
    have : n * 1 ≤ n * i.bytes := Nat.mul_le_mul_left _ hby
    omega
  have wn : IntKind.i64.wrap (n : Int) = n := by rw [IntKind.wrap_i64]; omega
  have hnn : ¬ ((n : Int) < 0) := by omega
  have hb48 : ¬ ((281474976710656 : Int) < (n : Int) * (i.bytes : Int)) := by
    have : ((n * i.bytes : Nat) : Int) ≤ 140737488355328 := by omega
    rw [Int.natCast_mul] at this
    omega
  have hn0 : ¬ (n ≤ 0) := by omega
  have hns : ¬ (n * i.size = 0) := by
    rw [hsz]
    exact Nat.pos_iff_ne_zero.1 (Nat.mul_pos h0 hpos)
  have h63 : ¬ ((9223372036854775807 : Int) < (n : Int)) := by omega
  have h48 : ¬ (281474976710656 < Builtin.nextslicecap n 0 * i.bytes) := by
    have := growslice_fits (old := 0) h0 hroom
    omega
  have hn0' : ¬ n = 0 := by omega
  have hs0 : ¬ i.size = 0 := by omega
  have hf : (Builtin.firstCells i.size 0 (.slice ad 0 0)).run P w.drew = .ok #[] w.drew := by
    cases ad with
    | none => exact run_firstCells_none w.drew i.size 0 0 0
    | some ad => exact run_firstCells_some w.drew i.size 0 ad 0 0 [] (by simp) (by simp)
  simp [Builtin.append_, run_underlying ht, run_underlying hk, sizeOf, typeInfo, zeroValue, hi, hz, asInt, asIntOf, wn, hnn, hb48, hn0, hn0', hs0, hns, h63, h48, Question.forced, newRow, grownCap, hf]
  rfl
end
end Go.Vc
