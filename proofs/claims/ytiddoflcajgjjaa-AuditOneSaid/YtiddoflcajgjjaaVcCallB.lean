/- A part of the proof of the seat's laws: VcOpJ, VcOpK, VcCall, VcPul, VcCallB. It states no claim by itself. -/
import Derived.Test.YtiddoflcajgjjaaVcOpI
import Derived.Deep.AppendSrc
import Derived.Laws.Cover3
/- Operations on memory, part J: append. -/
set_option linter.unusedVariables false
set_option linter.unusedSimpArgs false
namespace Go.Vc

def slOrStr (P : Program) (t : TypeId) : Bool := match P.underlying t with
  | some (.slice _) => true
  | some .string => true
  | _ => false
def callOf (b : Builtin) (c : Call) : Bool := match c.callee with
  | .builtin x => decide (x = b)
  | _ => false

section
variable {P : Program} {w : World} {S : SetS} {mu : Mu} {H : Heap} {env : Env} {a : Act} {nt : Nat} {K : Env → Heap → Prop}

theorem slOrStr_kind {t : TypeId} (h : slOrStr P t = true) : (∃ e', P.underlying t = some (.slice e')) ∨ P.underlying t = some .string := by
  unfold slOrStr at h
  split at h
  · rename_i e' h'; exact .inl ⟨e', h'⟩
  · rename_i h'; exact .inr h'
  · cases h

theorem RelL_of_elems {sz : Nat} {R : List Value → D → Prop} {cells : List Value} {xs : List D} (h : ∀ (j : Nat) (x : D), xs[j]? = some x → R ((cells.drop (j * sz)).take sz) x) (hl : xs.length * sz ≤ cells.length) :
    ∀ (off k : Nat), off + k ≤ xs.length → RelL sz R ((cells.drop (off * sz)).take (k * sz)) ((xs.drop off).take k)
  | off, 0, _ => by simp [RelL]
  | off, k + 1, hk => by
    have ih := RelL_of_elems h hl off k (by omega)
    have hx := h (off + k) _ (getD_of (show off + k < xs.length by omega))
    have h1 : (off + k + 1) * sz ≤ xs.length * sz := Nat.mul_le_mul_right _ (by omega)
    have h2 : (off + k + 1) * sz = off * sz + (k * sz + sz) := by simp only [Nat.add_mul]; omega
    have h3 : (k + 1) * sz = k * sz + sz := by simp only [Nat.add_mul]; omega
    have h4 : (off + k) * sz = off * sz + k * sz := by simp only [Nat.add_mul]
    have e1 : (cells.drop (off * sz)).take ((k + 1) * sz) = (cells.drop (off * sz)).take (k * sz) ++ (cells.drop ((off + k) * sz)).take sz := by
      rw [h3, List.take_add, List.drop_drop, h4]
    have e2 : (xs.drop off).take (k + 1) = (xs.drop off).take k ++ [xs.getD (off + k) (.i 0)] := by
      rw [List.take_add_one, List.getElem?_drop, getD_of (show off + k < xs.length by omega)]
      rfl
    rw [e1, e2]
    exact RelL_append ih (RelL_one (by simp; omega) hx)

theorem RelS_cells {sz : Nat} {R : List Value → D → Prop} {ad : Option Addr} {n c : Nat} {xs : List D} (h : RelS w S sz R ad n c xs) (h0 : 0 < xs.length) :
    ∃ b o cells, ad = some ⟨b, o, none⟩ ∧ Lies w S b o cells ∧ cells.length = xs.length * sz ∧ RelL sz R cells xs := by
  obtain ⟨hl, hnc, hcm, hel⟩ := h
  obtain ⟨b, o', cs0, rfl, _⟩ := hel 0 _ (getD_of h0)
  have key : ∀ k, k ≤ xs.length → ∃ cells, Lies w S b o' cells ∧ cells.length = k * sz ∧ RelL sz R cells (xs.take k) := by
    intro k
    induction k with
    | zero => intro _; exact ⟨[], Lies.nil _ _, by simp, by simp [RelL]⟩
    | succ k ih =>
      intro hk
      obtain ⟨cells, g1, g2, g3⟩ := ih (by omega)
      obtain ⟨b2, o2, cs, e3, g4, g5, g6⟩ := hel k _ (getD_of (show k < xs.length by omega))
      injection e3 with e3
      injection e3 with e4 e5
      subst e4; subst e5
      refine ⟨cells ++ cs, g1.append (by rw [g2]; exact g4), by simp [g2, g5, Nat.add_mul], ?_⟩
      rw [List.take_add_one, List.getElem?_eq_getElem (show k < xs.length by omega)]
      have : xs.getD k (.i 0) = xs[k] := by rw [List.getD_eq_getElem?_getD, List.getElem?_eq_getElem (show k < xs.length by omega)]; rfl
      rw [this] at g6
      exact RelL_append g3 (RelL_one g5 g6)
  obtain ⟨cells, g1, g2, g3⟩ := key xs.length (Nat.le_refl _)
  rw [List.take_length] at g3
  exact ⟨b, o', cells, rfl, g1, g2, g3⟩

theorem byteCells_rel (s : ByteArray) : ∀ (l : List UInt8), RelL 1 (RelD w S (.int .u8)) (l.map fun b => Value.int .u8 b.toNat) (l.map fun b => D.i b.toNat)
  | [] => by simp [RelL]
  | b :: l => ⟨[.int .u8 b.toNat], _, rfl, rfl, by
      simp only [RelD, D.int]
      refine ⟨trivial, ?_⟩
      have := b.toNat_lt
      simp [IntKind.has, IntKind.min, IntKind.max, IntKind.signed, IntKind.bits]
      omega, byteCells_rel s l⟩

theorem src_sound (hR : Rel nt w S mu H env a) {tx : TypeId} {e : Ty} {i : TypeInfo} (hk : slOrStr P tx = true) (hsz : i.size = e.size) {v : AV} {x : Value} (hr : RelV w S mu H v x) {ys : List D} (hs : srcOf e H v = some ys) :
    ∃ news, Src P i.size tx x ys.length news w ∧ RelL e.size (RelD w S e) news ys := by
  have kind := slOrStr_kind hk
  have hnone : ∀ (c : Nat), Src P i.size tx (.slice none 0 c) 0 [] w := fun c =>
    ⟨kind, fun _ => rfl, run_firstCells_none w i.size 0 0 c, run_firstCells_none w.drew i.size 0 0 c, by simp, fun _ h => by cases h⟩
  have hsome : ∀ (ad : Addr) (n c : Nat) (news : List Value), news.length = n * i.size → (∀ j u, news[j]? = some u → w.cell? (ad.add j) = some u) → (∀ u ∈ news, u.oneCell' = true) → Src P i.size tx (.slice (some ad) n c) n news w := fun ad n c news hl hn h1 =>
    ⟨kind, fun _ => rfl, run_firstCells_some w i.size n ad n c news hl hn, run_firstCells_some w.drew i.size n ad n c news hl (by simpa using hn), hl, h1⟩
  cases v <;> simp only [srcOf] at hs <;> first | (cases hs; done) | skip
  · -- a string
    rename_i s
    cases he : Ty.same e (.int .u8) with
    | false => simp [he] at hs
    | true =>
      have := Ty.same_eq _ _ he
      subst this
      simp only [he, cond_true, Option.some.injEq] at hs
      subst hs
      obtain ⟨rfl, _⟩ := hr.str
      refine ⟨byteCells s, ?_, byteCells_rel s _⟩
      have hl : (List.map (fun b : UInt8 => D.i b.toNat) s.data.toList).length = s.size := by rw [List.length_map, Array.length_toList]; rfl
      rw [hl, hsz]
      exact ⟨kind, fun _ => rfl, firstCells_string s w, firstCells_string s w.drew, by rw [byteCells_length, show (Ty.int IntKind.u8).size = 1 from rfl, Nat.mul_one], fun u hu => by
        obtain ⟨_, _, rfl⟩ := List.mem_map.1 hu
        rfl⟩
  · -- a tree
    rename_i u zs tk
    cases he : Ty.same u e with
    | false => simp [he] at hs
    | true =>
      have := Ty.same_eq _ _ he
      subst this
      simp only [he, cond_true, Option.some.injEq] at hs
      subst hs
      obtain ⟨ad, n, c, rfl, hrs, _⟩ := hr.sl
      have hn := hrs.1
      subst hn
      rcases Nat.eq_zero_or_pos zs.length with h0 | h0
      · have hz : zs = [] := List.length_eq_zero_iff.1 h0
        subst hz
        cases ad with
        | none => exact ⟨[], hnone c, by simp [RelL]⟩
        | some ad => exact ⟨[], hsome ad _ c [] (by simp) (by simp) (by simp), by simp [RelL]⟩
      · obtain ⟨b, o', cells, rfl, g1, g2, g3⟩ := RelS_cells hrs h0
        refine ⟨cells, hsome _ _ _ cells (by rw [hsz]; exact g2) (fun j u hj => ?_) (cells1_L (fun cs d hd => cells1_D _ cs d hd) _ _ g3), g3⟩
        rw [addr_add]
        exact (g1 j u hj).1
  · -- a row
    rename_i id u off len
    cases he : Ty.same u e with
    | false => simp [he] at hs
    | true =>
      have := Ty.same_eq _ _ he
      subst this
      simp only [he, cond_true] at hs
      cases hbk : H.getD id .dead with
      | fix f xs fz =>
        simp only [hbk] at hs
        cases hf : Ty.same f u with
        | false => simp [hf] at hs
        | true =>
          have := Ty.same_eq _ _ hf
          subst this
          simp only [hf, cond_true, Option.some.injEq] at hs
          subst hs
          have hb' := getD_blk hbk (by simp)
          obtain ⟨ad, c, rfl, hra⟩ := hr.rsl
          simp only [RelA] at hra
          obtain ⟨ad', c', q0, q1, q2, q3, blk, q4, q5, q6⟩ := hra
          injection q0 with q0
          injection q0 with q00 q01 q02
          subst q00; subst q02
          rw [hb'] at q4
          injection q4 with q4
          subst q4
          obtain ⟨_, hol, b, p1, p2, cells, ty, fr, p3, p4⟩ := q6.1 _ _ _ rfl
          obtain ⟨b', cells', ty', k1, k2, k3, k4, k5, k6⟩ := hR.heap.blk id _ hb'
          rw [p1] at k1
          injection k1 with k1
          subst k1
          rw [p3] at k2
          injection k2 with k2
          injection k2 with k21 k22 k23
          subst k21
          have hl : (List.take len (List.drop off xs)).length = len := by simp; omega
          rw [hl]
          rcases Nat.eq_zero_or_pos len with h0 | h0
          · subst h0
            cases ad with
            | none => exact ⟨[], hnone c, by simp [RelL]⟩
            | some ad => exact ⟨[], hsome ad _ c [] (by simp) (by simp) (by simp), by simp [RelL]⟩
          · have had := p2.resolve_left (by omega)
            subst had
            have hrl := RelL_of_elems k5 (by simpa using k4) off len hol
            have hfit : (off + len) * f.size ≤ cells.size := Nat.le_trans (Nat.mul_le_mul_right _ (by omega)) p4
            rw [Nat.add_mul] at hfit
            refine ⟨_, hsome _ _ _ _ (by rw [hsz]; simp; omega) (fun j u hj => ?_) (cells1_L (fun cs d hd => cells1_D _ cs d hd) _ _ hrl), hrl⟩
            have hjl : j < len * f.size := by
              rcases Nat.lt_or_ge j (len * f.size) with h | h
              · exact h
              · rw [List.getElem?_eq_none (by simp; omega)] at hj; cases hj
            rw [List.getElem?_take_of_lt hjl, List.getElem?_drop] at hj
            rw [addr_add, cell_of p3, ← Array.getElem?_toList]
            exact hj
      | var t v fz => simp only [hbk] at hs <;> cases hs
      | resv => simp only [hbk] at hs <;> cases hs
      | dead => simp only [hbk] at hs <;> cases hs
      | ext e n => simp only [hbk] at hs <;> cases hs
      | grw e n => simp only [hbk] at hs <;> cases hs

/-! ### What the model's append does -/
theorem run_app_stay {t te tx ty : TypeId} {i : TypeInfo} (ht : P.underlying t = some (.slice te)) (hi : P.info? te = some i) {ad : Option Addr} {n c : Nat} (hnc : n ≤ c) {x : Value} (hs : Src P i.size tx x 0 [] w) :
    (Builtin.append_ #[t, tx] ty #[.slice ad n c, x]).run P w = .ok (.slice ad n c) w := by
  cases ad <;> rcases hs.kind with ⟨e', hk⟩ | hk <;> simp [Builtin.append_, run_underlying ht, run_underlying hk, sizeOf, typeInfo, hi, hs.len, hnc, hs.cells, storeCells]

theorem run_app_room {t te tx ty : TypeId} {i : TypeInfo} (ht : P.underlying t = some (.slice te)) (hi : P.info? te = some i) {b n c : Nat} {cur : Array Value} {rt : TypeId} (hb : w.heap[b]? = some (.cells cur rt (0, 0)))
    {x : Value} {k : Nat} {news : List Value} (hs : Src P i.size tx x k news w) (hroom : n + k ≤ c) (hfit : c * i.size ≤ cur.size) :
    (Builtin.append_ #[t, tx] ty #[.slice (some ⟨b, 0, none⟩) n c, x]).run P w = .ok (.slice (some ⟨b, 0, none⟩) (n + k) c) (w.setRow b (over cur.toList (n * i.size) news).toArray) := by
  have hl := hs.newsLen
  have hle : (n + k) * i.size ≤ c * i.size := Nat.mul_le_mul_right _ hroom
  rw [Nat.add_mul] at hle
  have hst := run_storeCells_at P b (n * i.size) rt news 0 cur w hb (by omega) hs.one
  simp only [Nat.add_zero] at hst
  rcases hs.kind with ⟨e', hk⟩ | hk <;> simp [Builtin.append_, run_underlying ht, run_underlying hk, sizeOf, typeInfo, hi, hs.len, hroom, hs.cells, Addr.add_lit, hst, over]

theorem exec_append {o : Oper} {c : Call} {t tx : TypeId} {X Y : Operand} {v : Value} {w' : World} (ho : o.op = .call c) (hb : callOf .append c = true) (hargs : c.args.toList = [X, Y]) (hats : c.argTypes.toList = [t, tx])
    (hrun : ∀ ty, (Builtin.append_ #[t, tx] ty #[a.eval X, a.eval Y]).run P w = .ok v w') : (execOp a.eval o).run P w = .ok (.value v) w' := by
  obtain ⟨callee, args, ats⟩ := c
  have hargs' : args = #[X, Y] := by rw [← Array.toList_inj]; simpa using hargs
  have hats' : ats = #[t, tx] := by rw [← Array.toList_inj]; simpa using hats
  subst hargs'
  subst hats'
  cases callee <;> simp [callOf] at hb
  subst hb
  simp [execOp, ho, resolve, invoke, builtin, hrun]

/-- No room: a new row. -/
theorem run_app_grow0 {t te tx ty : TypeId} {e : Ty} {i : TypeInfo} {z : Value} (ht : P.underlying t = some (.slice te)) (hi : P.info? te = some i) (hz : i.zero = some z) (hzs : z.cells.size = e.size) (hsz : i.size = e.size) {ad : Option Addr} {n c : Nat} {xs : List D} (hn : xs.length = n) (hold : ∃ olds, (Builtin.firstCells i.size n (.slice ad n c)).run P w.drew = .ok olds.toArray w.drew ∧ RelL e.size (RelD w S e) olds xs)
    {x : Value} {k : Nat} {news : List Value} {ys : List D} (hs : Src P i.size tx x k news w) (hnews : RelL e.size (RelD w S e) news ys) (hk : k = ys.length) (hg : c < n + k) (hby : 0 < i.bytes) (hroom : (n + k) * i.bytes ≤ 140737488355328) :
    ∃ cap cells, (Builtin.append_ #[t, tx] ty #[.slice ad n c, x]).run P w = .ok (.slice (some ⟨w.heap.size, 0, none⟩) (n + k) cap) { w.alloc (.cells cells te) with drawn := w.drawn + 1 } ∧
      (∃ front post, cells.toList = front ++ post ∧ RelL e.size (RelD w S e) front (xs ++ ys)) ∧ n + k ≤ cap ∧ cap ≤ maxLen ∧ cap * e.size ≤ cells.size := by
  have hle : n + k ≤ 140737488355328 := by
    have : (n + k) * 1 ≤ (n + k) * i.bytes := Nat.mul_le_mul_left _ hby
    omega
  obtain ⟨olds, h1, h2⟩ := hold
  have hrun := run_append_grow_src (P := P) w t tx ty te i z ht hi hz ad n c olds h1 x k news hs hg (by omega) (growslice_fits hg hroom)
  have hge := grownCap_ge w (n + k) c te
  refine ⟨grownCap w (n + k) c te, _, hrun, ⟨olds ++ news, (Builtin.zeroCells z.cells (grownCap w (n + k) c te - (n + k))).toList, by simp, RelL_append h2 hnews⟩, hge, grownCap_le_maxLen w (n + k) c te (by simp [maxLen]; omega), ?_⟩
  have hl1 := h2.length
  have hl2 := hnews.length
  simp only [Array.size_append, List.size_toArray, List.length_append, Builtin.zeroCells, Array.size_map, Array.size_range, hl1, hl2, hzs]
  rw [← hk, hn, ← Nat.add_mul, ← Nat.add_mul]
  exact Nat.mul_le_mul_right _ (by omega)

theorem run_app_grow {t te tx ty : TypeId} {e : Ty} {i : TypeInfo} {z : Value} (ht : P.underlying t = some (.slice te)) (hi : P.info? te = some i) (hz : i.zero = some z) (hzs : z.cells.size = e.size) (hsz : i.size = e.size) {ad : Option Addr} {n c : Nat} {xs : List D} (hrs : RelS w S e.size (RelD w S e) ad n c xs)
    {x : Value} {k : Nat} {news : List Value} {ys : List D} (hs : Src P i.size tx x k news w) (hnews : RelL e.size (RelD w S e) news ys) (hk : k = ys.length) (hg : c < n + k) (hby : 0 < i.bytes) (hroom : (n + k) * i.bytes ≤ 140737488355328) :
    ∃ cap cells, (Builtin.append_ #[t, tx] ty #[.slice ad n c, x]).run P w = .ok (.slice (some ⟨w.heap.size, 0, none⟩) (n + k) cap) { w.alloc (.cells cells te) with drawn := w.drawn + 1 } ∧
      (∃ front post, cells.toList = front ++ post ∧ RelL e.size (RelD w S e) front (xs ++ ys)) ∧ n + k ≤ cap ∧ cap ≤ maxLen ∧ cap * e.size ≤ cells.size := by
  have hold : ∃ olds, (Builtin.firstCells i.size n (.slice ad n c)).run P w.drew = .ok olds.toArray w.drew ∧ RelL e.size (RelD w S e) olds xs := by
    have hn := hrs.1
    rcases Nat.eq_zero_or_pos xs.length with h0 | h0
    · have hx : xs = [] := List.length_eq_zero_iff.1 h0
      subst hx
      have hn0 : n = 0 := by simpa using hn.symm
      subst hn0
      cases ad with
      | none => exact ⟨[], run_firstCells_none w.drew i.size 0 0 c, by simp [RelL]⟩
      | some ad => exact ⟨[], run_firstCells_some w.drew i.size 0 ad 0 c [] (by simp) (by simp), by simp [RelL]⟩
    · obtain ⟨b, o', cells, rfl, g1, g2, g3⟩ := RelS_cells hrs h0
      refine ⟨cells, run_firstCells_some w.drew i.size n _ n c cells (by rw [hsz, ← hn]; exact g2) (fun j u hj => ?_), g3⟩
      rw [addr_add]
      exact (g1 j u hj).1
  exact run_app_grow0 ht hi hz hzs hsz hrs.1 hold hs hnews hk hg hby hroom

theorem set_self {H : Heap} {id : Nat} {b : Blk} (h : H[id]? = some b) : H.set id b = H := by
  apply List.ext_getElem?
  intro j
  rw [set_get (lt_of_get h)]
  by_cases hj : j = id
  · subst hj; simp [h]
  · simp [hj]

/-- An append to a row that grows and of which nobody reads yet. -/
theorem op_app_grw (hR : Rel nt w S mu H env a) {o : Oper} {d id : Nat} {f : Ty} {ws ys : List D} {c : Call} {t te tx : TypeId} {X Y : Operand} {ie : TypeInfo} {z : Value} {news : List Value} {ad : Option Addr} {len cp : Nat}
    (ho : o.op = .call c) (hb : callOf .append c = true) (hargs : c.args.toList = [X, Y]) (hats : c.argTypes.toList = [t, tx]) (hu : P.underlying t = some (.slice te)) (hie : P.info? te = some ie) (hiz : ie.zero = some z)
    (hzs : z.cells.size = f.size) (hsz : ie.size = f.size) (hpos : 0 < f.size) (hbp : 0 < ie.bytes) (hro : (ws.length + ys.length) * ie.bytes ≤ 140737488355328) (hd : dOK nt o.dst d = true)
    (e1 : a.eval X = .slice ad len cp) (hid : H[id]? = some (.grw f ws)) (hlen : len = ws.length) (hlc : len ≤ cp) (hcpm : cp ≤ maxLen)
    (hq : cp = 0 ∨ ∃ b, mu id = some b ∧ ad = some ⟨b, 0, none⟩ ∧ ∃ cells t fr, w.heap[b]? = some (Obj.cells cells t fr) ∧ cp * f.size ≤ cells.size)
    (hsrc : Src P ie.size tx (a.eval Y) ys.length news w) (hnews : RelL f.size (RelD w S f) news ys)
    (hK : K (put env d (.rsl id f 0 (ws.length + ys.length))) (H.set id (.grw f (ws ++ ys)))) (Q : Exit → Act → World → Prop) : o.wp P a w (OpPost nt w S mu H K) Q := by
  have hnl := hnews.length
  have hB := hR.heap.blk id _ hid
  have hil := lt_of_get hid
  rcases Nat.eq_zero_or_pos ys.length with h0 | h0
  · have hy : ys = [] := List.length_eq_zero_iff.1 h0
    subst hy
    have hnw : news = [] := List.length_eq_zero_iff.1 (by rw [hnl, h0, Nat.zero_mul])
    subst hnw
    rw [List.append_nil, set_self hid, List.length_nil, Nat.add_zero] at hK
    have hrun : (execOp a.eval o).run P w = .ok (.value (.slice ad len cp)) w := exec_append ho hb hargs hats (fun ty => by rw [e1]; exact run_app_stay hu hie hlc hsrc)
    refine wp_value hd hrun hR (Ev.refl _ _ _ _) ?_ hK Q
    simp only [RelV, RelA]
    refine ⟨ad, cp, by rw [hlen], by omega, hcpm, fun hlt => ?_, .grw f ws, hid, rfl, (fun _ _ _ hh => by cases hh), fun e' xs' hh => ?_⟩
    · rcases hq with hq | ⟨b, _, q2, _⟩
      · omega
      · exact ⟨b, 0, q2⟩
    · injection hh with q1 q2
      subst q1; subst q2
      exact ⟨rfl, fun _ => ⟨Nat.le_refl _, fun _ => hq⟩⟩
  · rcases Nat.lt_or_ge cp (len + ys.length) with hlt | hge
    · -- a new row
      have hold : ∃ olds, (Builtin.firstCells ie.size len (.slice ad len cp)).run P w.drew = .ok olds.toArray w.drew ∧ RelL f.size (RelD w S f) olds ws := by
        rcases Nat.eq_zero_or_pos ws.length with hw0 | hw0
        · have hx : ws = [] := List.length_eq_zero_iff.1 hw0
          have hn0 : len = 0 := by omega
          subst hx
          subst hn0
          cases ad with
          | none => exact ⟨[], run_firstCells_none w.drew ie.size 0 0 cp, by simp [RelL]⟩
          | some ad => exact ⟨[], run_firstCells_some w.drew ie.size 0 ad 0 cp [] (by simp) (by simp), by simp [RelL]⟩
        · obtain ⟨b, p1, p2, cells, ty, fr, p3, p4⟩ := hq.resolve_left (by omega)
          rcases hB.2 with ⟨k1, _⟩ | ⟨b', cells', ty', k1, k2, k3, k4, k5⟩
          · subst k1; simp at hw0
          · rw [p1] at k1
            injection k1 with k1
            subst k1
            subst p2
            have hl : (cells'.toList.take (len * f.size)).length = len * f.size := by rw [List.length_take, hlen]; exact Nat.min_eq_left (by simpa using k3)
            refine ⟨cells'.toList.take (len * f.size), run_firstCells_some w.drew ie.size len _ len cp _ (by rw [hsz]; exact hl) (fun j u hj => ?_), ?_⟩
            · have hjl : j < len * f.size := by
                rcases Nat.lt_or_ge j (len * f.size) with h | h
                · exact h
                · rw [List.getElem?_eq_none (by omega)] at hj; cases hj
              rw [List.getElem?_take_of_lt hjl] at hj
              rw [addr_add]
              show w.cell? ⟨b, 0 + j, none⟩ = some u
              rw [cell_of k2, Nat.zero_add, ← Array.getElem?_toList, hj]
            · have := RelL_of_elems (R := RelD w S f) (cells := cells'.toList) (xs := ws) k4 (by simpa using k3) 0 ws.length (by omega)
              simpa [hlen] using this
      obtain ⟨cap, cells, q1, ⟨front, post, q2, q2'⟩, q3, q4, q5⟩ := run_app_grow0 (ty := 0) hu hie hiz hzs hsz hlen.symm hold hsrc hnews rfl hlt hbp (by rw [hlen]; exact hro)
      have hrun : (execOp a.eval o).run P w = .ok (.value (.slice (some ⟨w.heap.size, 0, none⟩) (ws.length + ys.length) cap)) { w.alloc (.cells cells te) with drawn := w.drawn + 1 } :=
        exec_append ho hb hargs hats (fun ty => by rw [e1, ← hlen]; exact q1)
      have hfl := q2'.length
      obtain ⟨S', mu', g1, g2, g3, g4⟩ := new_row (blk := .grw f (ws ++ ys)) (cells := cells) (ty := te) hR hid (.inr ⟨_, rfl, .inr (by simp; omega)⟩) (fun _ => False) (fun _ h => h.elim)
        (fun w' S' mu' H' hc2 hT hm hs => ⟨hpos, .inr ⟨w.heap.size, cells, te, hm, hc2, by rw [← Array.length_toList, q2]; simp at hfl ⊢; omega, fun j x hj => by
          have hx := RelL_elems q2' hj
          have hjl : j < (ws ++ ys).length := by
            rcases Nat.lt_or_ge j (ws ++ ys).length with h | h
            · exact h
            · rw [List.getElem?_eq_none h] at hj; cases hj
          have hb : j * f.size + f.size ≤ front.length := by
            have : (j + 1) * f.size ≤ (ws ++ ys).length * f.size := Nat.mul_le_mul_right _ hjl
            rw [Nat.add_mul] at this
            omega
          rw [q2, List.drop_append_of_le_length (by omega), List.take_append_of_le_length (by simp; omega)]
          exact RelD.mono hT.stab _ _ _ hx, fun o ho => (hs o).1 ho⟩⟩) ⟨w.drawn + 1, rfl⟩
      refine wp_value hd hrun g1 g2 ?_ hK Q
      simp only [RelV, RelA]
      have hnew : ({ w.alloc (.cells cells te) with drawn := w.drawn + 1 } : World).heap[w.heap.size]? = some (.cells cells te (0, 0)) := heap_push_new w _
      refine ⟨_, cap, rfl, by omega, q4, fun _ => ⟨_, _, rfl⟩, .grw f (ws ++ ys), by rw [set_get hil, if_pos rfl], rfl, (fun _ _ _ hh => by cases hh), fun e' xs' hh => ?_⟩
      injection hh with k1 k2
      subst k1; subst k2
      exact ⟨rfl, fun _ => ⟨by simp, fun _ => .inr ⟨w.heap.size, g3, rfl, cells, te, _, hnew, q5⟩⟩⟩
    · -- there is room
      obtain ⟨b, p1, p2, cells, ty, fr, p3, p4⟩ := hq.resolve_left (by omega)
      subst p2
      rcases hB.2 with ⟨_, k2⟩ | ⟨b', cells', ty', k1, k2, k3, k4, k5⟩
      · rw [k2] at p1; cases p1
      · rw [p1] at k1
        injection k1 with k1
        subst k1
        rw [p3] at k2
        injection k2 with k2
        injection k2 with k21 k22 k23
        subst k21; subst k22; subst k23
        have hfit : (len + ys.length) * f.size ≤ cells.size := Nat.le_trans (Nat.mul_le_mul_right _ hge) p4
        have hadd : (len + ys.length) * f.size = len * f.size + ys.length * f.size := Nat.add_mul _ _ _
        have hov : len * f.size + news.length ≤ cells.toList.length := by simp; omega
        have hol := over_length hov
        have hsize : (over cells.toList (len * f.size) news).toArray.size = cells.size := by simpa using hol
        obtain ⟨S', g1, g2, g3⟩ := row_turn hR (blk' := .grw f (ws ++ ys)) (cur' := (over cells.toList (len * f.size) news).toArray) hid rfl p1 p3 hsize
          (fun o hs => absurd hs (k5 o)) (fun _ => False) (fun _ h => h.elim) (.inr ⟨_, rfl, .inr (by simp; omega)⟩)
          (fun w' S' H' hc hT hS => ⟨hpos, .inr ⟨b, _, ty, p1, hc, by rw [hsize, List.length_append, ← hlen]; exact hfit, fun j x hj => by
            have hfront : RelL f.size (RelD w S f) (cells.toList.take (len * f.size) ++ news) (ws ++ ys) := by
              refine RelL_append ?_ hnews
              have := RelL_of_elems (R := RelD w S f) (cells := cells.toList) (xs := ws) k4 (by simpa using k3) 0 ws.length (by omega)
              simpa [hlen] using this
            have hx := RelL_elems hfront hj
            have hfl := hfront.length
            have hjl : j < (ws ++ ys).length := by
              rcases Nat.lt_or_ge j (ws ++ ys).length with h | h
              · exact h
              · rw [List.getElem?_eq_none h] at hj; cases hj
            have hb : j * f.size + f.size ≤ (cells.toList.take (len * f.size) ++ news).length := by
              have : (j + 1) * f.size ≤ (ws ++ ys).length * f.size := Nat.mul_le_mul_right _ hjl
              rw [Nat.add_mul] at this
              omega
            have ho : over cells.toList (len * f.size) news = (cells.toList.take (len * f.size) ++ news) ++ cells.toList.drop (len * f.size + news.length) := by
              unfold over
              rw [List.append_assoc]
            show RelD _ _ _ (((over cells.toList (len * f.size) news).drop _).take _) x
            rw [ho, List.drop_append_of_le_length (by omega), List.take_append_of_le_length (by simp only [List.length_drop]; omega)]
            exact RelD.mono hT.stab _ _ _ hx, fun o ho => ((hS o).1 ho).elim (k5 o) (fun h => h)⟩⟩)
        have hnew : (w.setRow b (over cells.toList (len * f.size) news).toArray).heap[b]? = some (.cells (over cells.toList (len * f.size) news).toArray ty (0, 0)) := setRow_heap w b cells _ ty (0, 0) p3
        have hrun : (execOp a.eval o).run P w = .ok (.value (.slice (some ⟨b, 0, none⟩) (len + ys.length) cp)) (w.setRow b (over cells.toList (len * f.size) news).toArray) := by
          refine exec_append ho hb hargs hats (fun ty => ?_)
          rw [e1, ← hsz]
          exact run_app_room hu hie p3 hsrc hge (by rw [hsz]; exact p4)
        refine wp_value hd hrun g1 g2 ?_ hK Q
        simp only [RelV, RelA]
        refine ⟨some ⟨b, 0, none⟩, cp, by rw [hlen], by omega, hcpm, fun _ => ⟨_, _, rfl⟩, .grw f (ws ++ ys), by rw [set_get hil, if_pos rfl], rfl, (fun _ _ _ hh => by cases hh), fun e' xs' hh => ?_⟩
        injection hh with k1 k2
        subst k1; subst k2
        exact ⟨rfl, fun _ => ⟨by simp, fun _ => .inr ⟨b, p1, rfl, _, ty, _, hnew, by rw [hsize]; exact p4⟩⟩⟩
theorem op_app (hR : Rel nt w S mu H env a) {o : Oper} {d off bs : Nat} {e : Ty} {s x : Ar} {fx : Bool} {c : Call} {t tx : TypeId} {X Y : Operand} (ho : o.op = .call c) (hb : callOf .append c = true) (hargs : c.args.toList = [X, Y]) (hats : c.argTypes.toList = [t, tx])
    (hk : slOrStr P tx = true) (he : elOK P t e = true) (hbs : elBytes P t bs = true) (hbp : Nat.blt 0 bs = true) (hX : arOK X s = true) (hY : arOK Y x = true) (hd : dOK nt o.dst d = true)
    (orc : Orc) (base : Nat) (hK : awpOp orc base (.app d off e bs s x fx) env H K) (Q : Exit → Act → World → Prop) : o.wp P a w (OpPost nt w S mu H K) Q := by
  have r1 := arOK_rel hR.env hX
  have r2 := arOK_rel hR.env hY
  obtain ⟨te, hu, hte, hz, hzo, hpos⟩ := elOK_und he
  obtain ⟨ie, z, hie, hiz, hzc⟩ := zero_info hz
  obtain ⟨ie', hie', hsz⟩ := info_size hte
  rw [hie] at hie'
  injection hie' with hie'
  subst hie'
  have hzs := zsize hzo hzc
  have hby : ie.bytes = bs := by
    unfold elBytes at hbs
    rw [hu] at hbs
    simp only [bytesOK, hie] at hbs
    simpa using hbs
  have hbp' : 0 < ie.bytes := by rw [hby]; simpa using hbp
  simp only [awpOp] at hK
  cases hys : srcOf e H (x.ev env) with
  | none => simp only [hys] at hK
  | some ys =>
    obtain ⟨news, hsrc, hnews⟩ := src_sound hR hk hsz r2 hys
    have hnl := hnews.length
    cases hsv : s.ev env <;> simp only [hys, hsv] at hK
    case rsl id u o2 len =>
      cases hbk : H.getD id .dead <;> simp only [hbk] at hK
      rename_i f ws
      have hb' := getD_blk hbk (by simp)
      cases hfx : (fx || !Ty.same f e || !Nat.beq o2 0) with
      | true => simp [hfx] at hK
      | false =>
        simp only [hfx, cond_false] at hK
        simp only [Bool.or_eq_false_iff, Bool.not_eq_false'] at hfx
        have hfe := Ty.same_eq _ _ hfx.1.2
        have ho2 := Nat.eq_of_beq_eq_true hfx.2
        subst hfe
        subst ho2
        obtain ⟨⟨hlen, hro⟩, hK⟩ := hK
        rw [hsv] at r1
        obtain ⟨ad, cp, e1, hra⟩ := r1.rsl
        simp only [RelA] at hra
        obtain ⟨ad', c', q0, q1, q2, q3, blk, q4, _, q6⟩ := hra
        injection q0 with q0
        injection q0 with q00 q01 q02
        subst q00; subst q02
        rw [hb'] at q4
        injection q4 with q4
        subst q4
        obtain ⟨hfu, q7⟩ := q6.2 _ _ rfl
        exact op_app_grw hR ho hb hargs hats hu hie hiz hzs hsz hpos hbp' (by rw [hby]; exact hro) hd e1 hb' hlen q1 q2 ((q7 trivial).2 hlen) hsrc hnews hK Q
    rename_i u xs tk
    rw [hsv] at r1
    obtain ⟨ad, n, cp, e1, hrs, htk⟩ := r1.sl
    have hn := hrs.1
    have hncp := hrs.2.1
    have hcpm := hrs.2.2.1
    have hgrow : u = e → roomy (xs.length + ys.length) bs → cp < n + ys.length → ∃ cap cells front post, (execOp a.eval o).run P w = .ok (.value (.slice (some ⟨w.heap.size, 0, none⟩) (xs ++ ys).length cap)) { w.alloc (.cells cells te) with drawn := w.drawn + 1 } ∧
        cells.toList = front ++ post ∧ RelL e.size (RelD w S e) front (xs ++ ys) ∧ (xs ++ ys).length ≤ cap ∧ cap ≤ maxLen ∧ cap * e.size ≤ cells.size := by
      intro hue hro hlt
      subst hue
      obtain ⟨cap, cells, q1, ⟨front, post, q2, q2'⟩, q3, q4, q5⟩ := run_app_grow (ty := 0) hu hie hiz hzs hsz hrs hsrc hnews rfl hlt hbp' (by rw [hby, ← hn]; exact hro)
      refine ⟨cap, cells, front, post, exec_append ho hb hargs hats (fun ty => ?_), q2, q2', by simp; omega, q4, q5⟩
      rw [e1, List.length_append, hn]
      exact q1
    have hstay : ys.length = 0 → (execOp a.eval o).run P w = .ok (.value (.slice ad n cp)) w := by
      intro h0
      have hnw : news = [] := List.length_eq_zero_iff.1 (by rw [hnl, h0, Nat.zero_mul])
      subst hnw
      rw [h0] at hsrc
      refine exec_append ho hb hargs hats (fun ty => ?_)
      rw [e1]
      exact run_app_stay hu hie hncp hsrc
    cases tk with
    | no => simp only at hK
    | own id =>
      simp only at hK
      cases hs : Ty.same u e with
      | false => simp [hs] at hK
      | true =>
        have hue := Ty.same_eq _ _ hs
        subst hue
        simp only [hs, cond_true] at hK
        cases hbk : H.getD id .dead with
        | ext f m =>
          simp only [hbk] at hK
          cases hfx : (fx || !Ty.same f u) with
          | true => simp [hfx] at hK
          | false =>
            simp only [hfx, cond_false] at hK
            obtain ⟨⟨hm, hro⟩, hK⟩ := hK
            have hb' := getD_blk hbk (by simp)
            obtain ⟨blk, t1, t2, t3⟩ := htk
            rw [hb'] at t1
            injection t1 with t1
            subst t1
            obtain ⟨rfl, hnm, t4⟩ := t3 _ _ rfl
            have t4 := t4 (by omega)
            rcases Nat.eq_zero_or_pos ys.length with h0 | h0
            · -- nothing is appended
              have hz : ys = [] := List.length_eq_zero_iff.1 h0
              subst hz
              have hbe : Blk.ext f (xs.length + ([] : List D).length) = Blk.ext f m := by simp [hm]
              rw [hbe, set_self hb', List.append_nil] at hK
              refine wp_value hd (hstay rfl) hR (Ev.refl _ _ _ _) ?_ hK Q
              simp only [RelV, RelA]
              exact ⟨ad, n, cp, rfl, hrs, .ext f m, hb', rfl, t3⟩
            · rcases Nat.lt_or_ge cp (n + ys.length) with hlt | hge
              · -- a new row
                obtain ⟨cap, cells, front, post, q1, q2, q3, q4, q5, q6⟩ := hgrow rfl hro hlt
                refine op_grow' hR hd hb' (.inr ⟨_, rfl, .inr (by simp; omega)⟩) hpos ⟨w.drawn + 1, rfl⟩ q1 ⟨front, q2, q3⟩ q4 q5 q6 ?_ Q
                simpa using hK
              · -- there is room
                have hcp : ¬ cp = 0 := by omega
                obtain ⟨b, p1, p2, cells, ty, fr, p3, p4⟩ := t4.resolve_left hcp
                subst p2
                obtain ⟨_, hB⟩ := hR.heap.blk id _ hb'
                rcases hB with ⟨k1, k2⟩ | ⟨b', cells', ty', k1, k2, k3, k4⟩
                · rw [k2] at p1; cases p1
                · rw [p1] at k1
                  injection k1 with k1
                  subst k1
                  rw [p3] at k2
                  injection k2 with k2
                  injection k2 with k21 k22 k23
                  subst k21; subst k22; subst k23
                  have hfit : (n + ys.length) * f.size ≤ cells.size := Nat.le_trans (Nat.mul_le_mul_right _ hge) p4
                  have hadd : (n + ys.length) * f.size = n * f.size + ys.length * f.size := Nat.add_mul _ _ _
                  have hov : n * f.size + news.length ≤ cells.toList.length := by simp; omega
                  have hol := over_length hov
                  have hmn : m = n := by omega
                  subst hmn
                  obtain ⟨S', g1, g2, g3⟩ := row_turn hR (blk' := .ext f (m + ys.length)) (cur' := (over cells.toList (m * f.size) news).toArray) hb' rfl p1 p3 (by simpa using hol)
                    (fun o hs => by
                      have := k4 o hs
                      rw [← Array.getElem?_toList, ← Array.getElem?_toList]
                      show (over cells.toList (m * f.size) news)[o]? = _
                      rw [over_get _ _ _ hov, if_neg (by omega)])
                    (fun o => o < (m + ys.length) * f.size) (fun o ho => by
                      have : (over cells.toList (m * f.size) news).toArray.size = cells.size := by simpa using hol
                      omega) (.inr ⟨_, rfl, .inr (by omega)⟩)
                    (fun w' S' H' hc hT hS => ⟨hpos, .inr ⟨b, _, ty, p1, hc, by simp only [List.size_toArray, hol, Array.length_toList]; exact hfit, fun o hs => by
                      rcases (hS o).1 hs with hs | hs
                      · have := k4 o hs; omega
                      · exact hs⟩⟩)
                  have hnew : (w.setRow b (over cells.toList (m * f.size) news).toArray).heap[b]? = some (.cells (over cells.toList (m * f.size) news).toArray ty (0, 0)) := setRow_heap w b cells _ ty (0, 0) p3
                  have hrun : (execOp a.eval o).run P w = .ok (.value (.slice (some ⟨b, 0, none⟩) (m + ys.length) cp)) (w.setRow b (over cells.toList (m * f.size) news).toArray) := by
                    refine exec_append ho hb hargs hats (fun ty => ?_)
                    rw [e1, ← hsz]
                    exact run_app_room hu hie p3 hsrc hge (by rw [hsz]; exact p4)
                  have hlen : xs.length + ys.length = m + ys.length := by omega
                  rw [hlen] at hK
                  refine wp_value hd hrun g1 g2 ?_ hK Q
                  simp only [RelV, RelA]
                  refine ⟨some ⟨b, 0, none⟩, m + ys.length, cp, rfl, ⟨by simp; omega, hge, hcpm, fun j y hj => ?_⟩, .ext f (m + ys.length), by rw [set_get (lt_of_get hb'), if_pos rfl], rfl, ?_⟩
                  · rcases Nat.lt_or_ge j xs.length with hjl | hjl
                    · rw [List.getElem?_append_left hjl] at hj
                      obtain ⟨b2, o2, cs, r1, r2, r3, r4⟩ := hrs.2.2.2 j y hj
                      exact ⟨b2, o2, cs, r1, r2.mono g2.turn.stab, r3, RelD.mono g2.turn.stab _ _ _ r4⟩
                    · rw [List.getElem?_append_right hjl] at hj
                      obtain ⟨pre, cc, post', q0, q1, q2, q3⟩ := RelL_get hnews hj
                      refine ⟨b, 0, cc, rfl, fun k v hk => ?_, q2, RelD.mono g2.turn.stab _ _ _ q3⟩
                      have hkl : k < cc.length := by
                        rcases Nat.lt_or_ge k cc.length with h | h
                        · exact h
                        · rw [List.getElem?_eq_none h] at hk; cases hk
                      have hsum : news.length = pre.length + (cc.length + post'.length) := by rw [q0]; simp
                      have hjs : j * f.size = m * f.size + pre.length := by
                        rw [q1, ← Nat.add_mul]; congr 1; omega
                      refine ⟨?_, (g3 _).2 (.inr (by omega))⟩
                      rw [cell_of hnew, ← Array.getElem?_toList]
                      show (over cells.toList (m * f.size) news)[_]? = _
                      rw [over_get _ _ _ hov, if_pos (by omega), q0, List.getElem?_append_right (by omega), List.getElem?_append_left (by omega), ← hk]
                      congr 1
                      omega
                  · intro e' m' hh
                    injection hh with q1' q2'
                    subst q1'; subst q2'
                    exact ⟨rfl, Nat.le_refl _, fun _ => .inr ⟨b, p1, rfl, _, ty, _, hnew, by simp only [List.size_toArray, hol, Array.length_toList]; exact p4⟩⟩
        | var t v fz => simp only [hbk] at hK
        | resv => simp only [hbk] at hK
        | dead => simp only [hbk] at hK
        | fix e n fz => simp only [hbk] at hK
        | grw e n => simp only [hbk] at hK
    | full =>
      simp only at hK
      cases hs : Ty.same u e with
      | false => simp [hs] at hK
      | true =>
        have hue := Ty.same_eq _ _ hs
        subst hue
        simp only [hs, cond_true] at hK
        have hcn : cp = n := htk
        cases hbk : H.getD (base + off) .dead with
        | resv =>
          simp only [hbk] at hK
          have hb' := getD_blk hbk (by simp)
          cases fx with
          | true =>
            simp only [cond_true] at hK
            obtain ⟨⟨hx0, hy0, hro⟩, hK⟩ := hK
            have hx : xs = [] := List.length_eq_zero_iff.1 hx0
            subst hx
            obtain ⟨cap, cells, front, post, q1, q2, q3, q4, q5, q6⟩ := hgrow rfl (by simpa using hro) (by omega)
            simp only [List.nil_append] at q1 q3 q4
            exact op_fix hR hd hb' hpos ⟨w.drawn + 1, rfl⟩ q1 ⟨front, q2, q3⟩ q4 q5 q6 hK Q
          | false =>
            simp only [cond_false] at hK
            obtain ⟨⟨hor, hro⟩, hK⟩ := hK
            rcases Nat.eq_zero_or_pos ys.length with h0 | h0
            · have hx0 : xs.length = 0 := by omega
              have hx : xs = [] := List.length_eq_zero_iff.1 hx0
              have hy : ys = [] := List.length_eq_zero_iff.1 h0
              subst hx; subst hy
              obtain ⟨mu', g1, g2⟩ := mk_turn hR hb' hpos
              refine wp_value hd (hstay rfl) g1 g2 ?_ hK Q
              simp only [RelV, RelA]
              simp at hn
              subst hn
              refine ⟨ad, 0, cp, rfl, ⟨rfl, by omega, hcpm, fun j y hj => by simp at hj⟩, .ext u 0, by rw [set_get (lt_of_get hb'), if_pos rfl], rfl, ?_⟩
              intro e' m' hh
              injection hh with q1' q2'
              subst q1'; subst q2'
              exact ⟨rfl, Nat.le_refl _, fun _ => .inl hcn⟩
            · obtain ⟨cap, cells, front, post, q1, q2, q3, q4, q5, q6⟩ := hgrow rfl hro (by omega)
              refine op_grow hR hd hb' hpos ⟨w.drawn + 1, rfl⟩ q1 ⟨front, q2, q3⟩ q4 q5 q6 ?_ Q
              simpa using hK
        | var t v fz => simp only [hbk] at hK
        | ext e n => simp only [hbk] at hK
        | grw e n => simp only [hbk] at hK
        | dead => simp only [hbk] at hK
        | fix e n fz => simp only [hbk] at hK

/-- Zeros, appended to nothing. -/
theorem run_append_zeros {t te tx ty : TypeId} {e : Ty} {i : TypeInfo} {z : Value} {k : IntKind} (ht : P.underlying t = some (.slice te)) (hk : P.underlying tx = some (.int k)) (hi : P.info? te = some i) (hz : i.zero = some z) (hzs : z.cells.size = e.size) (hsz : i.size = e.size) (hpos : 0 < e.size) {n : Nat}
    (h0 : 0 < n) (hby : 0 < i.bytes) (hroom : n * i.bytes ≤ 140737488355328) {ad : Option Addr} {k' : IntKind} :
    (Builtin.append_ #[t, tx] ty #[.slice ad 0 0, .int k' n]).run P w = .ok (.slice (some ⟨w.heap.size, 0, none⟩) n (grownCap w n 0 te)) { w.alloc (.cells (Builtin.zeroCells z.cells n ++ Builtin.zeroCells z.cells (grownCap w n 0 te - n)) te) with drawn := w.drawn + 1 } := by
  have hle : n ≤ 140737488355328 := by
    have : n * 1 ≤ n * i.bytes := Nat.mul_le_mul_left _ hby
    omega
  have wn : IntKind.i64.wrap (n : Int) = n := by rw [IntKind.wrap_i64]; omega
  have hnn : ¬ ((n : Int) < 0) := by omega
  have hb48 : ¬ ((281474976710656 : Int) < (n : Int) * (i.bytes : Int)) := by
    have : ((n * i.bytes : Nat) : Int) ≤ 140737488355328 := by omega
    rw [Int.natCast_mul] at this
    omega
  have hn0 : ¬ (n ≤ 0) := by omega
  have hns : ¬ (n * i.size = 0) := by
    rw [hsz]
    exact Nat.pos_iff_ne_zero.1 (Nat.mul_pos h0 hpos)
  have h63 : ¬ ((9223372036854775807 : Int) < (n : Int)) := by omega
  have h48 : ¬ (281474976710656 < Builtin.nextslicecap n 0 * i.bytes) := by
    have := growslice_fits (old := 0) h0 hroom
    omega
  have hn0' : ¬ n = 0 := by omega
  have hs0 : ¬ i.size = 0 := by omega
  have hf : (Builtin.firstCells i.size 0 (.slice ad 0 0)).run P w.drew = .ok #[] w.drew := by
    cases ad with
    | none => exact run_firstCells_none w.drew i.size 0 0 0
    | some ad => exact run_firstCells_some w.drew i.size 0 ad 0 0 [] (by simp) (by simp)
  simp [Builtin.append_, run_underlying ht, run_underlying hk, sizeOf, typeInfo, zeroValue, hi, hz, asInt, asIntOf, wn, hnn, hb48, hn0, hn0', hs0, hns, h63, h48, Question.forced, newRow, grownCap, hf]
  rfl
end
end Go.Vc
/- Operations on memory, part K: zeros appended, capacity, a comparison with nil; the check of one operation. -/
set_option linter.unusedVariables false
set_option linter.unusedSimpArgs false
namespace Go.Vc

def intTy (P : Program) (t : TypeId) : Bool := match P.underlying t with
  | some (.int _) => true
  | _ => false

/-- One operation and its abstract form. Calls are checked elsewhere. -/
def mOK (P : Program) (nt : Nat) (o : Oper) : AOp → Bool
  | .v d vo => dOK nt o.dst d && vOK P o.op vo
  | .load d t x => dOK nt o.dst d && (match o.op with | .load ty X => tyOK P ty t && arOK X x | _ => false)
  | .alloc d _ t => dOK nt o.dst d && (match o.op with | .alloc ty => tyOK P ty t && zeroOK P ty t && zokA t | _ => false)
  | .box d _ t x => dOK nt o.dst d && (match o.op with | .box ty X => arOK X x | _ => false)
  | .lit d _ e n qs _ => dOK nt o.dst d && (match o.op with | .buildSlice t m parts => Nat.beq m n && elOK P t e && partsOK parts.toList qs && Nat.ble (n * e.size) 16777216 && Nat.ble n maxLen | _ => false)
  | .make d _ e bs l => dOK nt o.dst d && (match o.op with | .makeSlice t L C => elOK P t e && elBytes P t bs && Nat.blt 0 bs && arOK L l && arOK C l | _ => false)
  | .app d _ e bs s x _ => dOK nt o.dst d && (match o.op with | .call c => callOf .append c && (match c.args.toList, c.argTypes.toList with | [X, Y], [t, tx] => slOrStr P tx && elOK P t e && elBytes P t bs && Nat.blt 0 bs && arOK X s && arOK Y x | _, _ => false) | _ => false)
  | .appz d _ e bs s n => dOK nt o.dst d && (match o.op with | .call c => callOf .append c && (match c.args.toList, c.argTypes.toList with | [X, Y], [t, tx] => intTy P tx && elOK P t e && elBytes P t bs && Nat.blt 0 bs && arOK X s && arOK Y n | _, _ => false) | _ => false)
  | .store t x y => o.dst.isNone && (match o.op with | .store ty X Y => tyOK P ty t && arOK X x && arOK Y y | _ => false)
  | .mk d _ e x => dOK nt o.dst d && Nat.blt 0 e.size && (match o.op with | .assign X => arOK X x | .move X => arOK X x | _ => false)
  | .close d x => dOK nt o.dst d && (match o.op with | .assign X => arOK X x | .move X => arOK X x | _ => false)
  | .trim d x hi => dOK nt o.dst d && (match o.op with | .slice t X none (some Hi) none => (match P.underlying t with | some (.slice te) => arOK X x && arOK Hi hi && (match P.info? te with | some _ => true | none => false) | _ => false) | _ => false)
  | .acut d n e x lo hi => dOK nt o.dst d && (match o.op with | .slice t X Lo Hi none => arOK X x && optOK Lo lo && optOK Hi hi && tyOK P t (.arr n e) && Nat.ble n maxLen | _ => false)
  | .eqnil d neg x => dOK nt o.dst d && (match o.op with
    | .binOp p t X Y yt => (match p with | .eql => !neg | .neq => neg | _ => false) && isNilSl Y && arOK X x && (match P.underlying t with | some (.slice _) => true | _ => false)
    | _ => false)
  | .cap d x => dOK nt o.dst d && (match o.op with | .call c => callOf .cap c && (match c.args.toList, c.argTypes.toList with | [X], [t] => arOK X x && (match P.underlying t with | some (.slice _) => true | _ => false) | _, _ => false) | _ => false)
  | .callP .. => false
  | .boxc d t x => dOK nt o.dst d && (match o.op with | .box ty X => arOK X x | _ => false)
  | .callS .. => false
  | .stop d => dOKo nt o.dst d

section
variable {P : Program} {w : World} {S : SetS} {mu : Mu} {H : Heap} {env : Env} {a : Act} {nt : Nat} {K : Env → Heap → Prop}

theorem op_appz (hR : Rel nt w S mu H env a) {o : Oper} {d off bs : Nat} {e : Ty} {s x : Ar} {c : Call} {t tx : TypeId} {X Y : Operand} (ho : o.op = .call c) (hb : callOf .append c = true) (hargs : c.args.toList = [X, Y]) (hats : c.argTypes.toList = [t, tx])
    (hk : intTy P tx = true) (he : elOK P t e = true) (hbs : elBytes P t bs = true) (hbp : Nat.blt 0 bs = true) (hX : arOK X s = true) (hY : arOK Y x = true) (hd : dOK nt o.dst d = true)
    (orc : Orc) (base : Nat) (hK : awpOp orc base (.appz d off e bs s x) env H K) (Q : Exit → Act → World → Prop) : o.wp P a w (OpPost nt w S mu H K) Q := by
  have r1 := arOK_rel hR.env hX
  have r2 := arOK_rel hR.env hY
  obtain ⟨te, hu, hte, hz, hzo, hpos⟩ := elOK_und he
  obtain ⟨ie, z, hie, hiz, hzc⟩ := zero_info hz
  obtain ⟨ie', hie', hsz⟩ := info_size hte
  rw [hie] at hie'
  injection hie' with hie'
  subst hie'
  have hzs := zsize hzo hzc
  have hby : ie.bytes = bs := by
    unfold elBytes at hbs
    rw [hu] at hbs
    simp only [bytesOK, hie] at hbs
    simpa using hbs
  have hbp' : 0 < ie.bytes := by rw [hby]; simpa using hbp
  obtain ⟨kt, hkt⟩ : ∃ kt, P.underlying tx = some (.int kt) := by
    unfold intTy at hk
    split at hk
    · exact ⟨_, ‹_›⟩
    · cases hk
  simp only [awpOp] at hK
  cases hsv : s.ev env <;> cases hxv : x.ev env <;> cases hbk : H.getD (base + off) .dead <;> simp only [hsv, hxv, hbk] at hK <;> rename_i u xs tk k n <;> cases tk <;> simp only at hK
  cases hs : Ty.same u e with
  | false => simp [hs] at hK
  | true =>
    have hue := Ty.same_eq _ _ hs
    subst hue
    simp only [hs, cond_true] at hK
    obtain ⟨⟨hx0, hn0, hro⟩, hK⟩ := hK
    have hb' := getD_blk hbk (by simp)
    rw [hsv] at r1
    rw [hxv] at r2
    obtain ⟨ad, m, cp, e1, hrs, htk⟩ := r1.sl
    have hm0 : m = 0 := by rw [← hrs.1]; exact hx0
    subst hm0
    have hcp : cp = 0 := htk
    subst hcp
    obtain ⟨n, rfl⟩ : ∃ m : Nat, n = m := ⟨n.toNat, by omega⟩
    simp only [Int.toNat_natCast] at hK hro
    have hn0' : 0 < n := by omega
    have hroom : n * ie.bytes ≤ 140737488355328 := by rw [hby]; exact hro
    have hexec : (execOp a.eval o).run P w = .ok (.value (.slice (some ⟨w.heap.size, 0, none⟩) n (grownCap w n 0 te))) { w.alloc (.cells (Builtin.zeroCells z.cells n ++ Builtin.zeroCells z.cells (grownCap w n 0 te - n)) te) with drawn := w.drawn + 1 } :=
      exec_append ho hb hargs hats (fun ty => by
        rw [e1, r2.int.1]
        exact run_append_zeros (w := w) hu hkt hie hiz hzs hsz hpos hn0' hbp' hroom)
    have hzl : (Builtin.zeroCells z.cells n).toList = (List.range (n * z.cells.size)).map fun j => z.cells[j % z.cells.size]! := by
      rw [Builtin.zeroCells, Array.toList_map, Array.toList_range]
    have hrel : RelL u.size (RelD w S u) (Builtin.zeroCells z.cells n).toList (List.replicate n (zeroD u)) := by rw [hzl]; exact zeros_rel hzo hzc hpos n
    have hge := grownCap_ge w n 0 te
    have hle : n ≤ maxLen := by
      have : n * 1 ≤ n * ie.bytes := Nat.mul_le_mul_left _ hbp'
      simp [maxLen]
      omega
    have hcm := grownCap_le_maxLen w n 0 te hle
    refine op_fix hR (xs := List.replicate n (zeroD u)) (c := grownCap w n 0 te) hd hb' hpos ⟨w.drawn + 1, rfl⟩ (by simpa using hexec) ⟨_, Array.toList_append, hrel⟩ (by simpa using hge) hcm ?_ (by simpa using hK) Q
    simp only [Array.size_append, Builtin.zeroCells, Array.size_map, Array.size_range, hzs]
    rw [← Nat.add_mul]
    exact Nat.mul_le_mul_right _ (by omega)

theorem op_cap (hR : Rel nt w S mu H env a) {o : Oper} {d : Nat} {x : Ar} {c : Call} {t te : TypeId} {X : Operand} (ho : o.op = .call c) (hb : callOf .cap c = true) (hargs : c.args.toList = [X]) (hats : c.argTypes.toList = [t])
    (hu : P.underlying t = some (.slice te)) (hX : arOK X x = true) (hd : dOK nt o.dst d = true)
    (orc : Orc) (base : Nat) (hK : awpOp orc base (.cap d x) env H K) (Q : Exit → Act → World → Prop) : o.wp P a w (OpPost nt w S mu H K) Q := by
  have r1 := arOK_rel hR.env hX
  simp only [awpOp] at hK
  cases hv : x.ev env <;> simp only [hv] at hK
  rename_i u xs tk
  cases tk <;> simp only at hK
  rw [hv] at r1
  obtain ⟨ad, n, cp, e1, hrs, htk⟩ := r1.sl
  have hcp : cp = n := htk
  subst hcp
  have hn := hrs.1
  have hm := hrs.2.2.1
  refine wp_gives hR hd (gives_mk (v := .int .i64 (xs.length : Int)) ?_ (relv_int (has_len _ (by omega)))) hK Q
  obtain ⟨callee, args, ats⟩ := c
  have hargs' : args = #[X] := by rw [← Array.toList_inj]; simpa using hargs
  have hats' : ats = #[t] := by rw [← Array.toList_inj]; simpa using hats
  subst hargs'
  subst hats'
  cases callee <;> simp [callOf] at hb
  subst hb
  simp [execOp, ho, resolve, invoke, builtin, Builtin.cap_, run_underlying hu, e1, goInt, hn]

theorem op_eqnil (hR : Rel nt w S mu H env a) {o : Oper} {d : Nat} {neg : Bool} {x : Ar} {p : BinOp} {t te yt : TypeId} {X Y : Operand} (ho : o.op = .binOp p t X Y yt) (hp : (p = .eql ∧ neg = false) ∨ (p = .neq ∧ neg = true)) (hY : isNilSl Y = true)
    (hu : P.underlying t = some (.slice te)) (hX : arOK X x = true) (hd : dOK nt o.dst d = true)
    (orc : Orc) (base : Nat) (hK : awpOp orc base (.eqnil d neg x) env H K) (Q : Exit → Act → World → Prop) : o.wp P a w (OpPost nt w S mu H K) Q := by
  have r1 := arOK_rel hR.env hX
  simp only [awpOp] at hK
  cases hv : x.ev env <;> simp only [hv] at hK
  rename_i u xs tk
  rw [hv] at r1
  obtain ⟨ad, n, cp, e1, hrs, htk⟩ := r1.sl
  have hev : a.eval Y = .slice none 0 0 := by
    unfold isNilSl at hY
    split at hY
    · rfl
    · cases hY
  have hK' : K (put env d (.bool (ad.isNone != neg))) H := by
    cases hb : ad.isNone with
    | false =>
      have := hK.s
      cases neg <;> exact this
    | true =>
      have hx : xs = [] := by
        cases xs with
        | nil => rfl
        | cons y ys =>
          obtain ⟨b, o', cs, q, _⟩ := hrs.2.2.2 0 y rfl
          rw [q] at hb
          cases hb
      have := hK.n hx
      cases neg <;> exact this
  have hg : (eqGuard p t X Y (a.eval X) (a.eval Y)).run P w = .ok () w := by
    rw [e1]; exact run_guard_num _ _ _ _ _ _ (by simp) (by simp)
  refine wp_gives hR hd (gives_mk (v := .bool (ad.isNone != neg)) ?_ ?_) hK' Q
  · rcases hp with ⟨rfl, rfl⟩ | ⟨rfl, rfl⟩
    · have : (binOp .eql t (.slice ad n cp) (.slice none 0 0)).run P w = .ok (.bool ad.isNone) w := by
        simp [binOp, run_equal_slice_nil w t te ad n cp hu]
      simp only [execOp, ho, Sem.run_bind, hg, Result.andThen_ok]
      rw [e1, hev, this]
      simp
    · have := run_neq_slice_nil w t te ad n cp hu
      simp only [execOp, ho, Sem.run_bind, hg, Result.andThen_ok]
      rw [e1, hev, this]
      simp
  · simp only [RelV, RelA]

theorem op_boxc (hR : Rel nt w S mu H env a) {o : Oper} {d : Nat} {t : Ty} {x : Ar} {ty : TypeId} {X : Operand} (ho : o.op = .box ty X) (hd : dOK nt o.dst d = true) (hx : arOK X x = true)
    (orc : Orc) (base : Nat) (hK : awpOp orc base (.boxc d t x) env H K) (Q : Exit → Act → World → Prop) : o.wp P a w (OpPost nt w S mu H K) Q := by
  have r1 := arOK_rel hR.env hx
  simp only [awpOp, nrm_eq] at hK
  cases hf : fits (x.ev env) t with
  | false => rw [hf] at hK; exact hK.elim
  | true =>
    rw [hf] at hK
    simp only [cond_true] at hK
    have hfv := fitsV_of_fits _ _ hf
    obtain ⟨hval, hrel⟩ := r1.val hfv
    obtain ⟨S', g1, g2, g3⟩ := new_data hR (cells := (a.eval X).cells) (ty := ty)
    have hdat := toD_rel _ _ _ hf hrel
    have hnew : (w.alloc (.cells (a.eval X).cells ty)).heap[w.heap.size]? = some (.cells (a.eval X).cells ty (0, 0)) := heap_push_new w _
    refine wp_value hd (v := .pointer (some ⟨w.heap.size, 0, none⟩)) ?_ g1 g2 ?_ hK Q
    · simp only [execOp, ho, Sem.run_bind, Instr.box, Result.andThen_ok, run_newVar, Sem.run_pure]
    · simp only [RelV, RelA]
      refine ⟨w.heap.size, 0, rfl, (a.eval X).cells.toList, fun k v hk => ?_, RelD.mono g2.turn.stab _ _ _ hdat⟩
      have hkl : k < (a.eval X).cells.size := by
        rcases Nat.lt_or_ge k (a.eval X).cells.toList.length with h | h
        · simpa using h
        · rw [List.getElem?_eq_none h] at hk; cases hk
      rw [Nat.zero_add]
      exact ⟨by rw [cell_of hnew, ← Array.getElem?_toList]; exact hk, g3 k hkl⟩

theorem mop_sound (hR : Rel nt w S mu H env a) {o : Oper} {op : AOp} (hm : mOK P nt o op = true) (orc : Orc) (base : Nat) (hK : awpOp orc base op env H K) (Q : Exit → Act → World → Prop) : o.wp P a w (OpPost nt w S mu H K) Q := by
  cases op with
  | v d vo =>
    simp only [mOK, Bool.and_eq_true] at hm
    simp only [awpOp] at hK
    cases hv : vop vo env with
    | ok v => rw [hv] at hK; exact wp_gives hR hm.1 (vop_sound hR.env hm.2 (.inl hv)) hK Q
    | iff c v => rw [hv] at hK; exact wp_gives hR hm.1 (vop_sound hR.env hm.2 (.inr ⟨c, hv, hK.1⟩)) hK.2 Q
    | bad => rw [hv] at hK; exact hK.elim
  | load d t x =>
    simp only [mOK, Bool.and_eq_true] at hm
    obtain ⟨h1, h2⟩ := hm
    split at h2
    · rename_i ty X ho
      simp only [Bool.and_eq_true] at h2
      exact op_load hR ho h1 h2.1 h2.2 orc base hK Q
    · cases h2
  | alloc d off t =>
    simp only [mOK, Bool.and_eq_true] at hm
    obtain ⟨h1, h2⟩ := hm
    split at h2
    · rename_i ty ho
      simp only [Bool.and_eq_true] at h2
      exact op_alloc hR ho h1 h2.1.1 h2.1.2 h2.2 orc base hK Q
    · cases h2
  | box d off t x =>
    simp only [mOK, Bool.and_eq_true] at hm
    obtain ⟨h1, h2⟩ := hm
    split at h2
    · rename_i ty X ho
      exact op_box hR ho h1 h2 orc base hK Q
    · cases h2
  | lit d off e n qs fx =>
    simp only [mOK, Bool.and_eq_true] at hm
    obtain ⟨h1, h2⟩ := hm
    split at h2
    · rename_i t m parts ho
      simp only [Bool.and_eq_true] at h2
      obtain ⟨⟨⟨⟨g1, g2⟩, g3⟩, g4⟩, g5⟩ := h2
      have := Nat.eq_of_beq_eq_true g1
      subst this
      exact op_lit hR ho h1 g2 g3 g4 g5 orc base hK Q
    · cases h2
  | make d off e bs l =>
    simp only [mOK, Bool.and_eq_true] at hm
    obtain ⟨h1, h2⟩ := hm
    split at h2
    · rename_i t L C ho
      simp only [Bool.and_eq_true] at h2
      obtain ⟨⟨⟨⟨g1, g2⟩, g3⟩, g4⟩, g5⟩ := h2
      exact op_make hR ho h1 g1 g2 g3 g4 g5 orc base hK Q
    · cases h2
  | app d off e bs s x fx =>
    simp only [mOK, Bool.and_eq_true] at hm
    obtain ⟨h1, h2⟩ := hm
    split at h2
    · rename_i c ho
      simp only [Bool.and_eq_true] at h2
      obtain ⟨g0, h2⟩ := h2
      split at h2
      · rename_i X Y t tx hargs hats
        simp only [Bool.and_eq_true] at h2
        obtain ⟨⟨⟨⟨⟨g1, g2⟩, g3⟩, g4⟩, g5⟩, g6⟩ := h2
        exact op_app hR ho g0 hargs hats g1 g2 g3 g4 g5 g6 h1 orc base hK Q
      · cases h2
    · cases h2
  | appz d off e bs s n =>
    simp only [mOK, Bool.and_eq_true] at hm
    obtain ⟨h1, h2⟩ := hm
    split at h2
    · rename_i c ho
      simp only [Bool.and_eq_true] at h2
      obtain ⟨g0, h2⟩ := h2
      split at h2
      · rename_i X Y t tx hargs hats
        simp only [Bool.and_eq_true] at h2
        obtain ⟨⟨⟨⟨⟨g1, g2⟩, g3⟩, g4⟩, g5⟩, g6⟩ := h2
        exact op_appz hR ho g0 hargs hats g1 g2 g3 g4 g5 g6 h1 orc base hK Q
      · cases h2
    · cases h2
  | store t x y =>
    simp only [mOK, Bool.and_eq_true] at hm
    obtain ⟨h1, h2⟩ := hm
    split at h2
    · rename_i ty X Y ho
      simp only [Bool.and_eq_true] at h2
      exact op_store hR ho (by simpa using h1) h2.1.1 h2.1.2 h2.2 orc base hK Q
    · cases h2
  | mk d off e x =>
    simp only [mOK, Bool.and_eq_true] at hm
    obtain ⟨⟨h1, h2⟩, h3⟩ := hm
    split at h3
    · rename_i X ho
      exact op_mk hR (.inl ho) h3 h2 h1 orc base hK Q
    · rename_i X ho
      exact op_mk hR (.inr ho) h3 h2 h1 orc base hK Q
    · cases h3
  | close d x =>
    simp only [mOK, Bool.and_eq_true] at hm
    obtain ⟨h1, h2⟩ := hm
    split at h2
    · rename_i X ho
      exact op_close hR (.inl ho) h2 h1 orc base hK Q
    · rename_i X ho
      exact op_close hR (.inr ho) h2 h1 orc base hK Q
    · cases h2
  | trim d x hi =>
    simp only [mOK, Bool.and_eq_true] at hm
    obtain ⟨h1, h2⟩ := hm
    split at h2
    · rename_i t X Hi ho
      split at h2
      · rename_i te hu
        simp only [Bool.and_eq_true] at h2
        obtain ⟨⟨g1, g2⟩, g3⟩ := h2
        split at g3
        · rename_i i hi'
          exact op_trim hR ho g1 g2 hu hi' h1 orc base hK Q
        · cases g3
      · cases h2
    · cases h2
  | acut d n e x lo hi =>
    simp only [mOK, Bool.and_eq_true] at hm
    obtain ⟨h1, h2⟩ := hm
    split at h2
    · rename_i t X Lo Hi ho
      simp only [Bool.and_eq_true] at h2
      obtain ⟨⟨⟨⟨g1, g2⟩, g3⟩, g4⟩, g5⟩ := h2
      exact op_acut hR ho g1 g2 g3 g4 g5 h1 orc base hK Q
    · cases h2
  | eqnil d neg x =>
    simp only [mOK, Bool.and_eq_true] at hm
    obtain ⟨h1, h2⟩ := hm
    split at h2
    · rename_i p t X Y yt ho
      simp only [Bool.and_eq_true] at h2
      obtain ⟨⟨⟨g1, g2⟩, g3⟩, g4⟩ := h2
      split at g4
      · rename_i te hu
        exact op_eqnil hR ho (by cases p <;> simp at g1 <;> simp [g1]) g2 hu g3 h1 orc base hK Q
      · cases g4
    · cases h2
  | cap d x =>
    simp only [mOK, Bool.and_eq_true] at hm
    obtain ⟨h1, h2⟩ := hm
    split at h2
    · rename_i c ho
      simp only [Bool.and_eq_true] at h2
      obtain ⟨g0, h2⟩ := h2
      split at h2
      · rename_i X t hargs hats
        simp only [Bool.and_eq_true] at h2
        obtain ⟨g1, g2⟩ := h2
        split at g2
        · rename_i te hu
          exact op_cap hR ho g0 hargs hats hu g1 h1 orc base hK Q
        · cases g2
      · cases h2
    · cases h2
  | callP d f args off cnt fz => simp [mOK] at hm
  | callS d x args fs => simp [mOK] at hm
  | stop d => simp only [awpOp] at hK
  | boxc d t x =>
    simp only [mOK, Bool.and_eq_true] at hm
    obtain ⟨h1, h2⟩ := hm
    split at h2
    · rename_i ty X ho
      exact op_boxc hR ho h1 h2 orc base hK Q
    · cases h2
end
end Go.Vc
/- Calls. -/
set_option linter.unusedVariables false
set_option linter.unusedSimpArgs false
namespace Go.Vc

def mu0 : Mu := fun _ => none

/-- What a call with data alone leaves. -/
def PPost (w : World) (S : SetS) (r : AV) (n : Heap) (out : Ending) (w' : World) : Prop :=
  ∃ v S' mu', out = .returned v ∧ RelV w' S' mu' n r v ∧ RelH w' S' mu' n ∧ Ev w S mu0 [] w' S' mu' n
def SPost (w : World) (S : SetS) (mu : Mu) (H : Heap) (r : AV) (H' : Heap) (out : Ending) (w' : World) : Prop :=
  ∃ v S' mu', out = .returned v ∧ RelV w' S' mu' H' r v ∧ RelH w' S' mu' H' ∧ Ev w S mu H w' S' mu' H'

def POK (P : Program) (orc : Orc) (f : FuncId) : Prop :=
  ∀ (args : List AV) (vals : Array Value) (w : World) (S : SetS), RelVs w S mu0 [] args vals.toList → (∀ b o, S b o → ∃ v, w.cell? ⟨b, o, none⟩ = some v) →
    match (orc.p f args).res with
    | .ok r n => Calls P f vals w (PPost w S r n)
    | .iff c r n => c → Calls P f vals w (PPost w S r n)
    | _ => True
def SOK (P : Program) (orc : Orc) (f : FuncId) : Prop :=
  ∀ (args : List AV) (vals : Array Value) (w : World) (S : SetS) (mu : Mu) (H : Heap), RelVs w S mu H args vals.toList → RelH w S mu H →
    match (orc.s f args H).res with
    | .ok r H' => Calls P f vals w (SPost w S mu H r H')
    | .iff c r H' => c → Calls P f vals w (SPost w S mu H r H')
    | _ => True

section
variable {P : Program} {w : World} {S : SetS} {mu : Mu} {H : Heap} {env : Env} {a : Act} {nt : Nat} {K : Env → Heap → Prop}

/-! ### Rows, frozen -/
def froz : Blk → Blk
  | .fix e xs _ => .fix e xs true
  | b => b
theorem frz_get : ∀ (ids : List Nat) (H : Heap) (j : Nat), (frz H ids)[j]? = if j ∈ ids then (H[j]?).map froz else H[j]?
  | [], H, j => by simp [frz]
  | id :: r, H, j => by
    have key : ∀ H1 : Heap, (∀ j, H1[j]? = if j = id then (H[j]?).map froz else H[j]?) → (frz H1 r)[j]? = if j ∈ id :: r then (H[j]?).map froz else H[j]? := by
      intro H1 h1
      rw [frz_get r H1 j, h1 j]
      by_cases hj : j = id
      · subst hj
        simp only [if_true, List.mem_cons, true_or]
        split
        · cases hh : H[j]? with
          | none => rfl
          | some b => cases b <;> rfl
        · rfl
      · simp [hj]
    simp only [frz]
    split
    · rename_i e xs fz hg
      have hb := getD_blk hg (by simp)
      refine key _ (fun j => ?_)
      rw [set_get (lt_of_get hb)]
      by_cases hj : j = id
      · subst hj; simp [hb, froz]
      · simp [hj]
    · rename_i hg
      refine key _ (fun j => ?_)
      by_cases hj : j = id
      · subst hj
        simp only [if_true]
        cases hh : H[j]? with
        | none => rfl
        | some b =>
          have hd : H.getD j .dead = b := by rw [List.getD_eq_getElem?_getD, hh]; rfl
          cases b <;> first | rfl | exact absurd hd (hg _ _ _)
      · simp [hj]

/-- The cells that show when rows are handed over. -/
def rowS (S : SetS) (mu : Mu) (H : Heap) (ids : List Nat) : SetS := fun b o =>
  S b o ∨ ∃ id e xs fz, id ∈ ids ∧ H[id]? = some (.fix e xs fz) ∧ mu id = some b ∧ o < xs.length * e.size

theorem rowS_stab (ids : List Nat) : Stab w S w (rowS S mu H ids) := ⟨fun _ _ _ => rfl, fun _ _ h => .inl h⟩
theorem rowS_there (h : RelH w S mu H) (ids : List Nat) : ∀ b o, rowS S mu H ids b o → ∃ v, w.cell? ⟨b, o, none⟩ = some v := by
  rintro b o (hs | ⟨id, e, xs, fz, _, h1, h2, h3⟩)
  · exact h.there b o hs
  · obtain ⟨b', cells, ty, k1, k2, k3, k4, k5, k6⟩ := h.blk id _ h1
    rw [h2] at k1
    injection k1 with k1
    subst k1
    have ho : o < cells.size := by omega
    exact ⟨cells[o], by rw [cell_of k2]; exact Array.getElem?_eq_getElem ho⟩

theorem froz_live (b : Blk) : (froz b).live = b.live := by cases b <;> rfl

theorem frz_rel (h : Rel nt w S mu H env a) (ids : List Nat) : Rel nt w (rowS S mu H ids) mu (frz H ids) env a ∧ Ev w S mu H w (rowS S mu H ids) mu (frz H ids) := by
  have hT : Turn w S mu H w (rowS S mu H ids) mu (frz H ids) := by
    refine ⟨rowS_stab ids, fun b c t fr hb => ⟨c, fr, hb, rfl⟩, fun j b hb => ?_⟩
    rw [frz_get]
    by_cases hj : j ∈ ids
    · rw [if_pos hj, hb]
      refine ⟨froz b, rfl, ?_⟩
      cases b <;> simp only [froz] <;> first | exact Compat.refl _ _ | exact .inr (.inl ⟨_, _, rfl, rfl, rfl⟩)
    · rw [if_neg hj]
      exact ⟨b, hb, Compat.refl _ _⟩
  refine ⟨h.mono hT ?_, hT, Nat.le_refl _, rfl, rfl, rfl, fun _ _ _ => rfl, fun b o hs => ?_, fun j b hj => .inr ⟨j, hj⟩⟩
  · refine turn_sound (fun j => j ∈ ids ∧ ∃ e xs fz, H[j]? = some (.fix e xs fz)) h.heap hT (fun j hj => ?_) (fun j bk b hj hb hl hm => ⟨rfl, fun o hs => ?_⟩) (fun j bk hj hb => ?_) (fun i j bi bj b hi hij hbi hbj li lj mi mj => ?_) (rowS_there h.heap ids) (fun i b hi => h.heap.mus i b hi)
    · refine ⟨?_, rfl⟩
      rw [frz_get]
      split
      · rename_i hm
        cases hh : H[j]? with
        | none => rfl
        | some b => cases b <;> first | rfl | exact absurd ⟨hm, _, _, _, hh⟩ hj
      · rfl
    · rcases hs with hs | ⟨id, e, xs, fz, h1, h2, h3, h4⟩
      · exact hs
      · have := h.heap.inj j id bk _ b hb h2 hl rfl hm h3
        subst this
        exact absurd ⟨h1, _, _, _, h2⟩ hj
    · obtain ⟨hm, e, xs, fz, hh⟩ := hj
      rw [frz_get, if_pos hm, hh] at hb
      simp only [Option.map_some, froz, Option.some.injEq] at hb
      subst hb
      obtain ⟨b, cells, ty, k1, k2, k3, k4, k5, k6⟩ := h.heap.blk j _ hh
      exact ⟨b, cells, ty, k1, k2, k3, k4, fun k x hk => RelD.mono hT.stab _ _ _ (k5 k x hk), fun hf => by cases hf⟩
    · have old : ∀ (k : Nat) (bk : Blk), (frz H ids)[k]? = some bk → bk.live = true → ∃ b0 : Blk, H[k]? = some b0 ∧ b0.live = true := by
        intro k bk hk hl
        rw [frz_get] at hk
        split at hk
        · cases hh : H[k]? with
          | none => rw [hh] at hk; cases hk
          | some b0 =>
            rw [hh] at hk
            simp only [Option.map_some, Option.some.injEq] at hk
            subst hk
            exact ⟨b0, rfl, by rw [← froz_live]; exact hl⟩
        · exact ⟨bk, hk, hl⟩
      obtain ⟨c1, d1, d2⟩ := old i bi hbi li
      obtain ⟨c2, d3, d4⟩ := old j bj hbj lj
      exact hij (h.heap.inj i j c1 c2 b d1 d3 d2 d4 mi mj)
  · rcases hs with hs | ⟨id, e, xs, fz, _, _, h2, _⟩
    · exact .inl hs
    · exact .inr (.inr ⟨id, h2⟩)

/-! ### Handed over as data -/
mutual
theorem expo_rel (hH : RelH w S mu H) (S1 : SetS) (hst : ∀ b o, S b o → S1 b o) : ∀ (v : AV) (cs : List Value), (∀ id ∈ rids v, ∀ e xs fz b, H[id]? = some (.fix e xs fz) → mu id = some b → ∀ o, o < xs.length * e.size → S1 b o) → datA H v = true → RelA w S mu H v cs → RelA w S1 mu0 [] (expo H v) cs
  | .undef, _, _, _, h => by simp [RelA] at h
  | .int k n, cs, _, _, h => by simpa only [RelA, expo] using h
  | .bool b, cs, _, _, h => by simpa only [RelA, expo] using h
  | .str s, cs, _, _, h => by simpa only [RelA, expo] using h
  | .sl e xs .full, cs, _, _, h => by
    simp only [RelA, expo] at h ⊢
    obtain ⟨ad, n, c, h0, h1, h2⟩ := h
    exact ⟨ad, n, c, h0, h1.mono ⟨fun _ _ _ => rfl, hst⟩ (fun cs x hx => RelD.mono ⟨fun _ _ _ => rfl, hst⟩ e cs x hx), h2⟩
  | .sl e xs .no, cs, _, _, h => by
    simp only [RelA, expo] at h ⊢
    obtain ⟨ad, n, c, h0, h1, h2⟩ := h
    exact ⟨ad, n, c, h0, h1.mono ⟨fun _ _ _ => rfl, hst⟩ (fun cs x hx => RelD.mono ⟨fun _ _ _ => rfl, hst⟩ e cs x hx), trivial⟩
  | .sl e xs (.own id), cs, _, _, h => by
    simp only [RelA, expo] at h ⊢
    obtain ⟨ad, n, c, h0, h1, h2⟩ := h
    exact ⟨ad, n, c, h0, h1.mono ⟨fun _ _ _ => rfl, hst⟩ (fun cs x hx => RelD.mono ⟨fun _ _ _ => rfl, hst⟩ e cs x hx), trivial⟩
  | .rsl id e1 off len, cs, hr, hd, h => by
    simp only [datA] at hd
    split at hd
    · rename_i f xs fz hbk
      have := Ty.same_eq _ _ hd
      subst this
      have hb' := getD_blk hbk (by simp)
      simp only [expo, hbk]
      simp only [RelA] at h ⊢
      obtain ⟨ad, c, h0, h1, h2, h3, blk, q4, q5, q6⟩ := h
      rw [hb'] at q4
      injection q4 with q4
      subst q4
      obtain ⟨_, hol, b, p1, p2, cells, ty, fr, p3, p4⟩ := q6.1 _ _ _ rfl
      obtain ⟨b', cells', ty', k1, k2, k3, k4, k5, k6⟩ := hH.blk id _ hb'
      rw [p1] at k1
      injection k1 with k1
      subst k1
      rw [p3] at k2
      injection k2 with k2
      injection k2 with k21 k22 k23
      subst k21
      have hl : (List.take len (List.drop off xs)).length = len := by simp; omega
      refine ⟨ad, len, c, h0, ⟨hl, h1, h2, fun j x hj => ?_⟩, trivial⟩
      have hjl : j < len := by
        rcases Nat.lt_or_ge j len with h | h
        · exact h
        · rw [List.getElem?_eq_none (by omega)] at hj; cases hj
      rw [List.getElem?_take_of_lt hjl, List.getElem?_drop] at hj
      have hx := k5 _ x hj
      have had := p2.resolve_left (by omega)
      have hle : (off + j + 1) * f.size ≤ xs.length * f.size := Nat.mul_le_mul_right _ (by omega)
      have e1 : (off + j + 1) * f.size = (off + j) * f.size + f.size := by rw [Nat.add_mul (off + j) 1]; omega
      have e2 : (off + j) * f.size = off * f.size + j * f.size := Nat.add_mul _ _ _
      refine ⟨b, off * f.size, _, had, fun k v hk => ?_, by simp; omega, RelD.mono ⟨fun _ _ _ => rfl, hst⟩ _ _ _ hx⟩
      have hkl : k < f.size := by
        rcases Nat.lt_or_ge k f.size with h | h
        · exact h
        · rw [List.getElem?_eq_none (by simp; omega)] at hk; cases hk
      rw [List.getElem?_take_of_lt hkl, List.getElem?_drop] at hk
      refine ⟨?_, hr id (by simp [rids]) _ _ _ b hb' p1 _ (by omega)⟩
      rw [cell_of p3, ← Array.getElem?_toList, ← hk]
      congr 1
      omega
    · cases hd
  | .st vs, cs, hr, hd, h => by
    simp only [RelA, expo] at h ⊢
    exact expos_rel hH S1 hst vs cs (fun id hid => hr id (by simpa [rids] using hid)) (by simpa only [datA] using hd) h
  | .arr n e xs, cs, _, _, h => by
    simp only [RelA, expo] at h ⊢
    exact ⟨h.1, h.2.mono (fun cs x hx => RelD.mono ⟨fun _ _ _ => rfl, hst⟩ e cs x hx)⟩
  | .ptr id p ty, cs, _, hd, h => by simp [datA] at hd
  | .cptr t d, cs, _, _, h => by
    simp only [RelA, expo] at h ⊢
    obtain ⟨b, o, h0, cells, h1, h2⟩ := h
    exact ⟨b, o, h0, cells, h1.mono ⟨fun _ _ _ => rfl, hst⟩, RelD.mono ⟨fun _ _ _ => rfl, hst⟩ t cells d h2⟩
  | .nilp, cs, _, _, h => by simpa only [RelA, expo] using h
  | .fn f [], cs, _, _, h => by
    simp only [RelA, expo] at h ⊢
    obtain ⟨vs, h0, h1⟩ := h
    exact ⟨vs, h0, by simpa only [RelC] using h1⟩
  | .fn f (_ :: _), cs, _, hd, h => by simp [datA] at hd
  | .nilfn, cs, _, _, h => by simpa only [RelA, expo] using h
  | .tup _, _, _, _, h => by simp [RelA] at h
theorem expos_rel (hH : RelH w S mu H) (S1 : SetS) (hst : ∀ b o, S b o → S1 b o) : ∀ (vs : List AV) (cs : List Value), (∀ id ∈ ridss vs, ∀ e xs fz b, H[id]? = some (.fix e xs fz) → mu id = some b → ∀ o, o < xs.length * e.size → S1 b o) → datAs H vs = true → RelAs w S mu H vs cs → RelAs w S1 mu0 [] (expos H vs) cs
  | [], cs, _, _, h => by simpa only [RelAs, expos] using h
  | v :: vs, cs, hr, hd, h => by
    simp only [RelAs, expos] at h ⊢
    simp [datAs] at hd
    obtain ⟨c1, c2, h0, h1, h2⟩ := h
    exact ⟨c1, c2, h0, expo_rel hH S1 hst v c1 (fun id hid => hr id (by simp [ridss, hid])) hd.1 h1, expos_rel hH S1 hst vs c2 (fun id hid => hr id (by simp [ridss, hid])) hd.2 h2⟩
end

theorem expoV_rel (hH : RelH w S mu H) (S1 : SetS) (hst : ∀ b o, S b o → S1 b o) (v : AV) (u : Value) (hr : ∀ id ∈ rids v, ∀ e xs fz b, H[id]? = some (.fix e xs fz) → mu id = some b → ∀ o, o < xs.length * e.size → S1 b o) (hd : datA H v = true) (h : RelV w S mu H v u) : RelV w S1 mu0 [] (expo H v) u := by
  have hA : ∀ cs, RelA w S mu H v cs → RelA w S1 mu0 [] (expo H v) cs := fun cs => expo_rel hH S1 hst v cs hr hd
  cases v with
  | undef => simp [datA] at hd
  | tup vs => simp [datA] at hd
  | st vs => simp only [RelV, expo] at h ⊢; obtain ⟨cs, h0, h1⟩ := h; exact ⟨cs, h0, hA _ h1⟩
  | arr n e xs => simp only [RelV, expo] at h ⊢; obtain ⟨cs, h0, h1⟩ := h; exact ⟨cs, h0, hA _ h1⟩
  | int k n => simp only [RelV] at h; simpa only [RelV, expo] using hA _ h
  | bool b => simp only [RelV] at h; simpa only [RelV, expo] using hA _ h
  | str s => simp only [RelV] at h; simpa only [RelV, expo] using hA _ h
  | sl e xs t => simp only [RelV] at h; have := hA _ h; cases t <;> simpa only [RelV, expo] using this
  | rsl id e off len =>
    simp only [RelV] at h
    have := hA _ h
    simp only [datA] at hd
    split at hd
    · rename_i f xs fz hbk
      simp only [expo, hbk] at this ⊢
      simpa only [RelV] using this
    · cases hd
  | ptr id p t => simp [datA] at hd
  | cptr t d => simp only [RelV] at h; simpa only [RelV, expo] using hA _ h
  | nilp => simp only [RelV] at h; simpa only [RelV, expo] using hA _ h
  | fn f vs => 
    simp only [RelV] at h
    have := hA _ h
    cases vs with
    | nil => simpa only [RelV, expo] using this
    | cons _ _ => simp [datA] at hd
  | nilfn => simp only [RelV] at h; simpa only [RelV, expo] using hA _ h

theorem expoVs_rel (hH : RelH w S mu H) (S1 : SetS) (hst : ∀ b o, S b o → S1 b o) : ∀ (vs : List AV) (us : List Value), (∀ id ∈ ridss vs, ∀ e xs fz b, H[id]? = some (.fix e xs fz) → mu id = some b → ∀ o, o < xs.length * e.size → S1 b o) → datAs H vs = true → RelVs w S mu H vs us → RelVs w S1 mu0 [] (expos H vs) us
  | [], us, _, _, h => by simpa only [RelVs, expos] using h
  | v :: vs, us, hr, hd, h => by
    simp only [RelVs, expos] at h ⊢
    simp [datAs] at hd
    obtain ⟨u, us', h0, h1, h2⟩ := h
    exact ⟨u, us', h0, expoV_rel hH S1 hst v u (fun id hid => hr id (by simp [ridss, hid])) hd.1 h1, expoVs_rel hH S1 hst vs us' (fun id hid => hr id (by simp [ridss, hid])) hd.2 h2⟩

/-! ### Addresses, named anew -/
mutual
theorem drp_rel {w : World} {S : SetS} {mu : Mu} {H : Heap} : ∀ (v : AV) (cs : List Value), RelA w S mu H v cs → RelA w S mu H (drp v) cs
  | .sl e xs t, cs, h => by
    simp only [drp, RelA] at h ⊢
    obtain ⟨a, n, c, h0, h1, _⟩ := h
    exact ⟨a, n, c, h0, h1, trivial⟩
  | .st vs, cs, h => by simp only [drp, RelA] at h ⊢; exact drps_rel vs cs h
  | .undef, _, h | .int .., _, h | .bool _, _, h | .str _, _, h | .rsl .., _, h | .arr .., _, h | .ptr .., _, h | .cptr .., _, h | .nilp, _, h | .fn .., _, h | .nilfn, _, h | .tup _, _, h => by simpa only [drp] using h
theorem drps_rel {w : World} {S : SetS} {mu : Mu} {H : Heap} : ∀ (vs : List AV) (cs : List Value), RelAs w S mu H vs cs → RelAs w S mu H (drps vs) cs
  | [], cs, h => by simpa only [drps] using h
  | v :: vs, cs, h => by
    simp only [drps, RelAs] at h ⊢
    obtain ⟨c1, c2, h0, h1, h2⟩ := h
    exact ⟨c1, c2, h0, drp_rel v c1 h1, drps_rel vs c2 h2⟩
end
theorem drpV_rel {w : World} {S : SetS} {mu : Mu} {H : Heap} (v : AV) (u : Value) (h : RelV w S mu H v u) : RelV w S mu H (drp v) u := by
  cases v with
  | st vs =>
    simp only [RelV] at h
    obtain ⟨cs, h0, h1⟩ := h
    have := drp_rel _ _ h1
    simp only [drp] at this ⊢
    simp only [RelV]
    exact ⟨cs, h0, this⟩
  | sl e xs t =>
    simp only [RelV] at h
    have := drp_rel _ _ h
    simp only [drp] at this ⊢
    simpa only [RelV] using this
  | _ => simpa only [drp] using h
theorem drpVs_rel {w : World} {S : SetS} {mu : Mu} {H : Heap} (b : Bool) : ∀ (vs : List AV) (us : List Value), RelVs w S mu H vs us → RelVs w S mu H (drpF b vs) us := by
  have key : ∀ (vs : List AV) (us : List Value), RelVs w S mu H vs us → RelVs w S mu H (drps vs) us := by
    intro vs
    induction vs with
    | nil => intro us h; simpa only [drps] using h
    | cons v vs ih =>
      intro us h
      simp only [drps, RelVs] at h ⊢
      obtain ⟨u, us', h0, h1, h2⟩ := h
      exact ⟨u, us', h0, drpV_rel v u h1, ih us' h2⟩
  intro vs us h
  cases b with
  | true => exact h
  | false => exact key vs us h

theorem ren_zero (to id : Nat) : ren 0 to id = id + to := by
  unfold ren
  cases h : Nat.blt id 0 with
  | true => simp at h
  | false => simp

section
variable {w : World} {S : SetS} {mu mu'' : Mu} {n H'' : Heap} {to : Nat}
mutual
theorem renA_rel (hm : ∀ id b, n[id]? = some b → H''[id + to]? = some (renB 0 to b) ∧ mu'' (id + to) = mu id) : ∀ (v : AV) (cs : List Value), RelA w S mu n v cs → RelA w S mu'' H'' (renA 0 to v) cs
  | .undef, _, h => by simp [RelA] at h
  | .int k n, cs, h => by simpa only [RelA, renA] using h
  | .bool b, cs, h => by simpa only [RelA, renA] using h
  | .str s, cs, h => by simpa only [RelA, renA] using h
  | .sl e xs .full, cs, h => by simpa only [RelA, renA, RelT] using h
  | .sl e xs .no, cs, h => by simpa only [RelA, renA, RelT] using h
  | .sl e xs (.own id), cs, h => by
    simp only [RelA, renA, ren_zero] at h ⊢
    obtain ⟨ad, m, c, h0, h1, blk, h2, h3, h4⟩ := h
    obtain ⟨g1, g2⟩ := hm id blk h2
    refine ⟨ad, m, c, h0, h1, _, g1, by cases blk <;> first | exact h3 | (simp [Blk.grows] at h3), ?_⟩
    intro e' m' hb
    cases blk <;> simp [renB] at hb
    obtain ⟨rfl, rfl⟩ := hb
    obtain ⟨q1, q2, q3⟩ := h4 _ _ rfl
    exact ⟨q1, q2, fun hnm => by rw [g2]; exact q3 hnm⟩
  | .rsl id e1 off len, cs, h => by
    simp only [RelA, renA, ren_zero] at h ⊢
    obtain ⟨ad, c, h0, h1, h2, h3, blk, q4, q5, q6⟩ := h
    obtain ⟨g1, g2⟩ := hm id blk q4
    refine ⟨ad, c, h0, h1, h2, h3, _, g1, by cases blk <;> first | exact q5 | (simp [Blk.row] at q5), ?_, ?_⟩
    · intro e' xs' fz' hb
      cases blk <;> simp [renB] at hb
      obtain ⟨rfl, rfl, rfl⟩ := hb
      rw [g2]
      exact q6.1 _ _ _ rfl
    · intro e' xs' hb
      cases blk <;> simp [renB] at hb
      obtain ⟨rfl, rfl⟩ := hb
      rw [g2]
      exact q6.2 _ _ rfl
  | .st vs, cs, h => by simp only [RelA, renA] at h ⊢; exact renAs_rel hm vs cs h
  | .arr n e xs, cs, h => by simpa only [RelA, renA] using h
  | .ptr id p ty, cs, h => by
    simp only [RelA, renA, ren_zero] at h ⊢
    obtain ⟨b, o, h0, blk, q1, q2, q3⟩ := h
    obtain ⟨g1, g2⟩ := hm id blk q1
    refine ⟨b, o, h0, _, g1, by cases blk <;> exact q2, fun hh => ?_⟩
    rw [g2]
    cases blk with
    | var t v fz =>
      obtain ⟨k1, k2, k3⟩ := q3 (.inl ⟨_, _, _, rfl⟩)
      exact ⟨k1, by cases p <;> exact k2, by cases p <;> exact k3⟩
    | fix e xs fz => exact q3 (.inr ⟨_, _, _, rfl⟩)
    | resv => simp [renB] at hh
    | dead => simp [renB] at hh
    | ext e m => simp [renB] at hh
    | grw e m => simp [renB] at hh
  | .cptr t d, cs, h => by simpa only [RelA, renA] using h
  | .nilp, cs, h => by simpa only [RelA, renA] using h
  | .fn f caps, cs, h => by
    simp only [RelA, renA] at h ⊢
    obtain ⟨vs, h0, h1⟩ := h
    exact ⟨vs, h0, renC_rel hm caps _ h1⟩
  | .nilfn, cs, h => by simpa only [RelA, renA] using h
  | .tup _, _, h => by simp [RelA] at h
theorem renAs_rel (hm : ∀ id b, n[id]? = some b → H''[id + to]? = some (renB 0 to b) ∧ mu'' (id + to) = mu id) : ∀ (vs : List AV) (cs : List Value), RelAs w S mu n vs cs → RelAs w S mu'' H'' (renAs 0 to vs) cs
  | [], cs, h => by simpa only [RelAs, renAs] using h
  | v :: vs, cs, h => by
    simp only [RelAs, renAs] at h ⊢
    obtain ⟨c1, c2, h0, h1, h2⟩ := h
    exact ⟨c1, c2, h0, renA_rel hm v c1 h1, renAs_rel hm vs c2 h2⟩
theorem renC_rel (hm : ∀ id b, n[id]? = some b → H''[id + to]? = some (renB 0 to b) ∧ mu'' (id + to) = mu id) : ∀ (vs : List AV) (cs : List Value), RelC w S mu n vs cs → RelC w S mu'' H'' (renAs 0 to vs) cs
  | [], cs, h => by simpa only [RelC, renAs] using h
  | v :: vs, cs, h => by
    simp only [RelC, renAs] at h ⊢
    obtain ⟨c, cs', h0, h1, h2⟩ := h
    exact ⟨c, cs', h0, renA_rel hm v [c] h1, renC_rel hm vs cs' h2⟩
end
mutual
theorem renV_rel (hm : ∀ id b, n[id]? = some b → H''[id + to]? = some (renB 0 to b) ∧ mu'' (id + to) = mu id) : ∀ (v : AV) (u : Value), RelV w S mu n v u → RelV w S mu'' H'' (renA 0 to v) u
  | .undef, _, _ => by simp only [RelV, renA]
  | .tup vs, u, h => by
    simp only [RelV, renA] at h ⊢
    obtain ⟨us, h0, h1⟩ := h
    exact ⟨us, h0, renVs_rel hm vs _ h1⟩
  | .st vs, u, h => by
    simp only [RelV, renA] at h ⊢
    obtain ⟨cs, h0, h1⟩ := h
    exact ⟨cs, h0, by have := renA_rel hm _ _ h1; simpa only [renA] using this⟩
  | .arr m e xs, u, h => by
    simp only [RelV, renA] at h ⊢
    obtain ⟨cs, h0, h1⟩ := h
    exact ⟨cs, h0, by have := renA_rel hm _ _ h1; simpa only [renA] using this⟩
  | .int .., u, h => by simp only [RelV] at h; have := renA_rel hm _ _ h; simpa only [RelV, renA] using this
  | .bool .., u, h => by simp only [RelV] at h; have := renA_rel hm _ _ h; simpa only [RelV, renA] using this
  | .str .., u, h => by simp only [RelV] at h; have := renA_rel hm _ _ h; simpa only [RelV, renA] using this
  | .sl e xs .no, u, h => by simp only [RelV] at h; have := renA_rel hm _ _ h; simpa only [RelV, renA] using this
  | .sl e xs .full, u, h => by simp only [RelV] at h; have := renA_rel hm _ _ h; simpa only [RelV, renA] using this
  | .sl e xs (.own id), u, h => by simp only [RelV] at h; have := renA_rel hm _ _ h; simpa only [RelV, renA] using this
  | .rsl .., u, h => by simp only [RelV] at h; have := renA_rel hm _ _ h; simpa only [RelV, renA] using this
  | .ptr .., u, h => by simp only [RelV] at h; have := renA_rel hm _ _ h; simpa only [RelV, renA] using this
  | .cptr .., u, h => by simp only [RelV] at h; have := renA_rel hm _ _ h; simpa only [RelV, renA] using this
  | .nilp, u, h => by simp only [RelV] at h; have := renA_rel hm _ _ h; simpa only [RelV, renA] using this
  | .fn .., u, h => by simp only [RelV] at h; have := renA_rel hm _ _ h; simpa only [RelV, renA] using this
  | .nilfn, u, h => by simp only [RelV] at h; have := renA_rel hm _ _ h; simpa only [RelV, renA] using this
theorem renVs_rel (hm : ∀ id b, n[id]? = some b → H''[id + to]? = some (renB 0 to b) ∧ mu'' (id + to) = mu id) : ∀ (vs : List AV) (us : List Value), RelVs w S mu n vs us → RelVs w S mu'' H'' (renAs 0 to vs) us
  | [], us, h => by simpa only [RelVs, renAs] using h
  | v :: vs, us, h => by
    simp only [RelVs, renAs] at h ⊢
    obtain ⟨u, us', h0, h1, h2⟩ := h
    exact ⟨u, us', h0, renV_rel hm v u h1, renVs_rel hm vs us' h2⟩
end
end
mutual
theorem plain_rel {w w' : World} {S S' : SetS} {mu mu' : Mu} {H H' : Heap} (to : Nat) : ∀ (v : AV) (cs : List Value), plain v = true → RelA w S mu H v cs → RelA w' S' mu' H' (renA 0 to v) cs
  | .int k n, u, _, h => by simpa only [RelA, renA] using h
  | .bool b, u, _, h => by simpa only [RelA, renA] using h
  | .str b, u, _, h => by simpa only [RelA, renA] using h
  | .st vs, u, hs, h => by
    simp only [RelA, renA] at h ⊢
    exact plains_rel to vs _ (by simpa only [plain] using hs) h
  | .sl .., _, hs, _ => by simp [plain] at hs
  | .tup _, _, hs, _ => by simp [plain] at hs
  | .nilp, _, hs, _ => by simp [plain] at hs
  | .nilfn, _, hs, _ => by simp [plain] at hs
  | .undef, _, hs, _ => by simp [plain] at hs
  | .rsl .., _, hs, _ => by simp [plain] at hs
  | .arr .., _, hs, _ => by simp [plain] at hs
  | .ptr .., _, hs, _ => by simp [plain] at hs
  | .cptr .., _, hs, _ => by simp [plain] at hs
  | .fn .., _, hs, _ => by simp [plain] at hs
theorem plains_rel {w w' : World} {S S' : SetS} {mu mu' : Mu} {H H' : Heap} (to : Nat) : ∀ (vs : List AV) (cs : List Value), plains vs = true → RelAs w S mu H vs cs → RelAs w' S' mu' H' (renAs 0 to vs) cs
  | [], cs, _, h => by simpa only [RelAs, renAs] using h
  | v :: vs, cs, hs, h => by
    simp only [RelAs, renAs] at h ⊢
    simp [plains] at hs
    obtain ⟨c1, c2, h0, h1, h2⟩ := h
    exact ⟨c1, c2, h0, plain_rel to v c1 hs.1 h1, plains_rel to vs c2 hs.2 h2⟩
end
mutual
theorem scal_rel {w w' : World} {S S' : SetS} {mu mu' : Mu} {H H' : Heap} (to : Nat) : ∀ (v : AV) (u : Value), scal v = true → RelV w S mu H v u → RelV w' S' mu' H' (renA 0 to v) u
  | .int k n, u, _, h => by simpa only [RelV, RelA, renA] using h
  | .bool b, u, _, h => by simpa only [RelV, RelA, renA] using h
  | .str b, u, _, h => by simpa only [RelV, RelA, renA] using h
  | .sl e xs t, u, hs, h => by
    simp only [scal] at hs
    unfold scalS at hs
    split at hs
    · simp only [RelV, RelA, renA] at h ⊢
      obtain ⟨a, n, c, h0, h1, h2⟩ := h
      exact ⟨a, n, c, h0, ⟨h1.1, h1.2.1, h1.2.2.1, fun j x hj => by simp at hj⟩, trivial⟩
    · simp only [RelV, RelA, renA] at h ⊢
      obtain ⟨a, n, c, h0, h1, h2⟩ := h
      exact ⟨a, n, c, h0, ⟨h1.1, h1.2.1, h1.2.2.1, fun j x hj => by simp at hj⟩, h2⟩
    · cases hs
  | .tup vs, u, hs, h => by
    simp only [RelV, renA] at h ⊢
    obtain ⟨us, h0, h1⟩ := h
    exact ⟨us, h0, scals_rel to vs _ (by simpa only [scal] using hs) h1⟩
  | .nilp, u, _, h => by simpa only [RelV, RelA, renA] using h
  | .nilfn, u, _, h => by simpa only [RelV, RelA, renA] using h
  | .undef, _, hs, _ => by simp [scal] at hs
  | .rsl .., _, hs, _ => by simp [scal] at hs
  | .st vs, u, hs, h => by
    simp only [RelV, renA] at h ⊢
    obtain ⟨cs, h0, h1⟩ := h
    exact ⟨cs, h0, by
      simp only [RelA] at h1 ⊢
      exact plains_rel to vs _ (by simpa only [scal] using hs) h1⟩
  | .arr .., _, hs, _ => by simp [scal] at hs
  | .ptr .., _, hs, _ => by simp [scal] at hs
  | .cptr .., _, hs, _ => by simp [scal] at hs
  | .fn .., _, hs, _ => by simp [scal] at hs
theorem scals_rel {w w' : World} {S S' : SetS} {mu mu' : Mu} {H H' : Heap} (to : Nat) : ∀ (vs : List AV) (us : List Value), scals vs = true → RelVs w S mu H vs us → RelVs w' S' mu' H' (renAs 0 to vs) us
  | [], us, _, h => by simpa only [RelVs, renAs] using h
  | v :: vs, us, hs, h => by
    simp only [RelVs, renAs] at h ⊢
    simp [scals] at hs
    obtain ⟨u, us', h0, h1, h2⟩ := h
    exact ⟨u, us', h0, scal_rel to v u hs.1 h1, scals_rel to vs us' hs.2 h2⟩
end

/-! ### Where new blocks are laid -/
theorem lay_get : ∀ (n : Heap) (h : Heap) (i j : Nat), (∀ k, i ≤ k → k < i + n.length → k < h.length) → (lay h i n)[j]? = if i ≤ j ∧ j < i + n.length then n[j - i]? else h[j]?
  | [], h, i, j, _ => by
    simp only [lay, List.length_nil, Nat.add_zero]
    rw [if_neg (by omega)]
  | b :: r, h, i, j, hl => by
    simp only [lay]
    simp only [List.length_cons] at hl
    have hi := hl i (Nat.le_refl _) (by omega)
    rw [lay_get r (h.set i b) (i + 1) j (fun k h1 h2 => by have := hl k (by omega) (by omega); simpa using this), set_get hi]
    by_cases hj : j = i
    · subst hj
      rw [if_neg (by omega), if_pos rfl, if_pos (by simp)]
      simp
    · by_cases hc : i + 1 ≤ j ∧ j < i + 1 + r.length
      · rw [if_pos hc, if_pos (by simp; omega)]
        rw [show j - i = (j - (i + 1)) + 1 by omega, List.getElem?_cons_succ]
      · rw [if_neg hc, if_neg hj, if_neg (by simp; omega)]
theorem renH_length (n0 to : Nat) : ∀ (n : Heap), (renH n0 to n).length = n.length
  | [] => rfl
  | b :: r => by simp [renH, renH_length n0 to r]
theorem renH_get (n0 to : Nat) : ∀ (n : Heap) (j : Nat), (renH n0 to n)[j]? = (n[j]?).map (renB n0 to)
  | [], j => by simp [renH]
  | b :: r, 0 => by simp [renH]
  | b :: r, j + 1 => by simp [renH, renH_get n0 to r j]
theorem resvs_get : ∀ (k : Nat) (h : Heap) (i : Nat), resvs h i k = true → ∀ j, i ≤ j → j < i + k → h[j]? = some .resv
  | 0, h, i, _, j, h1, h2 => by omega
  | k + 1, h, i, hr, j, h1, h2 => by
    simp only [resvs, Bool.and_eq_true] at hr
    by_cases hj : j = i
    · subst hj
      have h3 := hr.1
      split at h3
      · rename_i hg; exact getD_blk hg (by simp)
      · cases h3
    · exact resvs_get k h (i + 1) hr.2 j (by omega) (by omega)
theorem lay_length : ∀ (n : Heap) (h : Heap) (i : Nat), (lay h i n).length = h.length
  | [], h, i => rfl
  | b :: r, h, i => by simp [lay, lay_length r]

mutual
theorem fitsV_ren (to : Nat) : ∀ (v : AV) (T : Ty), fitsV v T = true → fitsV (renA 0 to v) T = true
  | .undef, T, h => by cases T <;> simp [fitsV] at h
  | .int .., T, h => by simpa only [renA] using h
  | .bool .., T, h => by simpa only [renA] using h
  | .str .., T, h => by simpa only [renA] using h
  | .sl e xs t, T, h => by cases t <;> cases T <;> simp [fitsV] at h <;> simp [renA, fitsV, h]
  | .rsl .., T, h => by cases T <;> simp [fitsV] at h <;> simp [renA, fitsV, h]
  | .ptr .., T, h => by cases T <;> simp [fitsV] at h <;> simp [renA, fitsV]
  | .st vs, T, h => by
    cases T <;> simp [fitsV] at h
    simp only [renA, fitsV]
    exact fitsVs_ren to vs _ h
  | .fn f vs, T, h => by cases T <;> simp [fitsV] at h <;> simp [renA, fitsV]
  | .tup vs, T, h => by cases T <;> simp [fitsV] at h
  | .arr .., T, h => by simpa only [renA] using h
  | .cptr .., T, h => by simpa only [renA] using h
  | .nilp, T, h => by simpa only [renA] using h
  | .nilfn, T, h => by simpa only [renA] using h
theorem fitsVs_ren (to : Nat) : ∀ (vs : List AV) (ts : List Ty), fitsVs vs ts = true → fitsVs (renAs 0 to vs) ts = true
  | [], [], _ => rfl
  | [], _ :: _, h => by simp [fitsVs] at h
  | _ :: _, [], h => by simp [fitsVs] at h
  | v :: vs, t :: ts, h => by
    simp [fitsVs] at h
    simp [renAs, fitsVs, fitsV_ren to v t h.1, fitsVs_ren to vs ts h.2]
end

theorem renB_live (to : Nat) (b : Blk) : (renB 0 to b).live = b.live := by cases b <;> rfl

theorem renB_rel {w : World} {S : SetS} {mu mu'' : Mu} {n H'' : Heap} {to : Nat} (hm : ∀ id b, n[id]? = some b → H''[id + to]? = some (renB 0 to b) ∧ mu'' (id + to) = mu id) {id : Nat} {b : Blk} (hid : n[id]? = some b) (h : RelB w S mu n id b) : RelB w S mu'' H'' (id + to) (renB 0 to b) := by
  have hmu := (hm id b hid).2
  cases b with
  | resv => trivial
  | dead => trivial
  | var t v fz =>
    obtain ⟨b, cells, ty, h1, h2, h3, h4, h5, h6⟩ := h
    exact ⟨b, cells, ty, by rw [hmu, h1], h2, h3, renA_rel hm _ _ h4, fitsV_ren to _ _ h5, h6⟩
  | fix e xs fz =>
    obtain ⟨b, cells, ty, h1, h2, h3, h4, h5, h6⟩ := h
    exact ⟨b, cells, ty, by rw [hmu, h1], h2, h3, h4, h5, h6⟩
  | ext e m =>
    obtain ⟨h0, h1⟩ := h
    refine ⟨h0, ?_⟩
    rcases h1 with ⟨h1, h2⟩ | ⟨b, cells, ty, h1, h2, h3, h4⟩
    · exact .inl ⟨h1, by rw [hmu, h2]⟩
    · exact .inr ⟨b, cells, ty, by rw [hmu, h1], h2, h3, h4⟩
  | grw e xs =>
    obtain ⟨h0, h1⟩ := h
    refine ⟨h0, ?_⟩
    rcases h1 with ⟨h1, h2⟩ | ⟨b, cells, ty, h1, h2, h3, h4⟩
    · exact .inl ⟨h1, by rw [hmu, h2]⟩
    · exact .inr ⟨b, cells, ty, by rw [hmu, h1], h2, h3, h4⟩

/-- A call of data alone, seen by the caller. -/
theorem call_turn {w' : World} {S' : SetS} {mu' : Mu} {n : Heap} {r : AV} {v : Value} {to : Nat} (h : Rel nt w S mu H env a) (hrv : ∀ j, to ≤ j → j < to + n.length → H[j]? = some .resv)
    (hv : RelV w' S' mu' n r v) (hH : RelH w' S' mu' n) (hE : Ev w S mu0 [] w' S' mu' n) :
    ∃ mu'', Rel nt w' S' mu'' (lay H to (renH 0 to n)) env a ∧ Ev w S mu H w' S' mu'' (lay H to (renH 0 to n)) ∧ RelV w' S' mu'' (lay H to (renH 0 to n)) (renA 0 to r) v := by
  have hrl := renH_length 0 to n
  have hget : ∀ j, (lay H to (renH 0 to n))[j]? = if to ≤ j ∧ j < to + n.length then (n[j - to]?).map (renB 0 to) else H[j]? := fun j => by
    rw [lay_get _ _ _ _ (fun k h1 h2 => lt_of_get (hrv k h1 (by omega))), hrl, renH_get]
  let mu'' : Mu := fun j => if to ≤ j ∧ j < to + n.length then mu' (j - to) else mu j
  have hin : ∀ j, to ≤ j ∧ j < to + n.length → mu'' j = mu' (j - to) := fun j hj => if_pos hj
  have hout : ∀ j, ¬ (to ≤ j ∧ j < to + n.length) → mu'' j = mu j := fun j hj => if_neg hj
  have hm : ∀ id b, n[id]? = some b → (lay H to (renH 0 to n))[id + to]? = some (renB 0 to b) ∧ mu'' (id + to) = mu' id := fun id b hb => by
    have hid := lt_of_get hb
    have hc : to ≤ id + to ∧ id + to < to + n.length := by omega
    rw [hget, if_pos hc, hin _ hc, Nat.add_sub_cancel, hb]
    exact ⟨rfl, rfl⟩
  have hfr : ∀ b, b < w.heap.size → w'.heap[b]? = w.heap[b]? := fun b hb => hE.frame b hb (fun id => by simp [mu0])
  have hnewM : ∀ i b, mu' i = some b → w.heap.size ≤ b := fun i b hi => by
    rcases hE.newM i b hi with h | ⟨_, h⟩
    · exact h
    · simp [mu0] at h
  have hnewS : ∀ b o, S' b o → S b o ∨ w.heap.size ≤ b := fun b o hs => by
    rcases hE.newS b o hs with h | h | ⟨_, h⟩
    · exact .inl h
    · exact .inr h
    · simp [mu0] at h
  have hT : Turn w S mu H w' S' mu'' (lay H to (renH 0 to n)) := by
    refine ⟨hE.turn.stab, hE.turn.wide, fun j b hb => ?_⟩
    rw [hget]
    by_cases hj : to ≤ j ∧ j < to + n.length
    · rw [if_pos hj]
      have hlt : j - to < n.length := by omega
      rw [List.getElem?_eq_getElem hlt]
      rw [hrv j hj.1 hj.2] at hb
      injection hb with hb
      subst hb
      exact ⟨_, rfl, trivial⟩
    · rw [if_neg hj, hout j hj]
      exact ⟨b, hb, Compat.refl _ _⟩
  refine ⟨mu'', h.mono hT ?_, ⟨hT, hE.size, hE.os, hE.tape, hE.output, fun b hb _ => hfr b hb, fun b o hs => ?_, fun j b hj => ?_⟩, renV_rel hm r v hv⟩
  · refine turn_sound (fun j => to ≤ j ∧ j < to + n.length) h.heap hT (fun j hj => ?_) (fun j bk b hj hb hl hmj => ?_) (fun j bk hj hb => ?_) (fun i j bi bj b hi hij hbi hbj li lj mi mj => ?_) hH.there (fun i b hi => ?_)
    · rw [hget, if_neg hj]
      exact ⟨rfl, hout j hj⟩
    · have hlt := h.heap.mus j b hmj
      refine ⟨hfr b hlt, fun o hs => ?_⟩
      rcases hnewS b o hs with hs | hs
      · exact hs
      · omega
    · rw [hget, if_pos hj] at hb
      cases hn : n[j - to]? with
      | none => rw [hn] at hb; cases hb
      | some b0 =>
        rw [hn] at hb
        simp only [Option.map_some, Option.some.injEq] at hb
        subst hb
        have := renB_rel hm hn (hH.blk _ _ hn)
        rwa [Nat.sub_add_cancel hj.1] at this
    · rw [hget, if_pos hi] at hbi
      rw [hin i hi] at mi
      have hbs := hnewM _ _ mi
      by_cases hj : to ≤ j ∧ j < to + n.length
      · rw [hget, if_pos hj] at hbj
        rw [hin j hj] at mj
        cases hn1 : n[i - to]? with
        | none => rw [hn1] at hbi; cases hbi
        | some b1 =>
          cases hn2 : n[j - to]? with
          | none => rw [hn2] at hbj; cases hbj
          | some b2 =>
            rw [hn1] at hbi
            rw [hn2] at hbj
            simp only [Option.map_some, Option.some.injEq] at hbi hbj
            subst hbi; subst hbj
            have := hH.inj _ _ _ _ b hn1 hn2 (by rw [← renB_live to]; exact li) (by rw [← renB_live to]; exact lj) mi mj
            omega
      · rw [hout j hj] at mj
        have := h.heap.mus j b mj
        omega
    · by_cases hj : to ≤ i ∧ i < to + n.length
      · rw [hin i hj] at hi
        exact hH.mus _ _ hi
      · rw [hout i hj] at hi
        exact Nat.lt_of_lt_of_le (h.heap.mus i b hi) hE.size
  · rcases hnewS b o hs with hs | hs
    · exact .inl hs
    · exact .inr (.inl hs)
  · by_cases hc : to ≤ j ∧ j < to + n.length
    · rw [hin j hc] at hj
      exact .inl (hnewM _ _ hj)
    · rw [hout j hc] at hj
      exact .inr ⟨j, hj⟩

/-- A call that shows nothing: all is as it was, and a little more lies in memory. -/
theorem call_still {w' : World} {S1 S' : SetS} {mu' : Mu} (h : Rel nt w S mu H env a) (hE : Ev w S1 mu0 [] w' S' mu' []) :
    Rel nt w' S mu H env a ∧ Ev w S mu H w' S mu H := by
  have hfr : ∀ b, b < w.heap.size → w'.heap[b]? = w.heap[b]? := fun b hb => hE.frame b hb (fun id => by simp [mu0])
  have hSlt : ∀ b o, S b o → b < w.heap.size := fun b o hs => by obtain ⟨v, hv⟩ := h.heap.there b o hs; exact lt_of_cell hv
  have hT : Turn w S mu H w' S mu H :=
    ⟨⟨fun b o hs => cell_same (hfr b (hSlt b o hs)), fun b o hs => hs⟩, hE.turn.wide, fun j b hb => ⟨b, hb, Compat.refl _ _⟩⟩
  refine ⟨h.mono hT ?_, hT, hE.size, hE.os, hE.tape, hE.output, fun b hb _ => hfr b hb, fun b o hs => .inl hs, fun j b hj => .inr ⟨j, hj⟩⟩
  refine turn_sound (fun _ => False) h.heap hT (fun _ _ => ⟨rfl, rfl⟩) (fun j bk b _ _ _ hm => ⟨hfr b (h.heap.mus j b hm), fun o hs => hs⟩) (fun _ _ h => h.elim) (fun i j bi bj b hi => hi.elim) (fun b o hs => ?_) (fun i b hi => ?_)
  · obtain ⟨v, hv⟩ := h.heap.there b o hs
    exact ⟨v, by rw [cell_same (hfr b (hSlt b o hs))]; exact hv⟩
  · exact Nat.lt_of_lt_of_le (h.heap.mus i b hi) hE.size
end
end Go.Vc
/- What a value holds on to; addresses by a map; calls with a part of memory. -/
set_option linter.unusedVariables false
set_option linter.unusedSimpArgs false
namespace Go.Vc

section
variable {P : Program} {w : World} {S : SetS} {mu : Mu} {H : Heap} {env : Env} {a : Act} {nt : Nat}

theorem memN_spec {x : Nat} : ∀ {l : List Nat}, memN x l = true ↔ x ∈ l
  | [] => by simp [memN]
  | y :: r => by
    simp only [memN, Bool.or_eq_true, List.mem_cons, memN_spec (l := r)]
    constructor
    · rintro (h | h)
      · exact .inl (Nat.eq_of_beq_eq_true h).symm
      · exact .inr h
    · rintro (h | h)
      · exact .inl (by subst h; simp)
      · exact .inr h
theorem idx_get {x : Nat} : ∀ {l : List Nat}, x ∈ l → l[idx x l]? = some x
  | [], h => by simp at h
  | y :: r, h => by
    simp only [idx]
    cases hb : Nat.beq y x with
    | true => simp; exact Nat.eq_of_beq_eq_true hb
    | false =>
      have hne : ¬ x = y := fun e => by subst e; simp at hb
      simp only [cond_false, List.getElem?_cons_succ]
      exact idx_get ((List.mem_cons.1 h).resolve_left hne)
theorem nodupN_spec : ∀ {l : List Nat}, nodupN l = true → ∀ (i j : Nat) (x : Nat), l[i]? = some x → l[j]? = some x → i = j
  | [], _, i, j, x, h, _ => by simp at h
  | y :: r, h, i, j, x, hi, hj => by
    simp only [nodupN, Bool.and_eq_true] at h
    have hn : y ∉ r := fun hm => by
      have := memN_spec.2 hm
      rw [this] at h
      simp at h
    cases i with
    | zero =>
      cases j with
      | zero => rfl
      | succ j =>
        simp at hi hj
        subst hi
        exact absurd (List.mem_of_getElem? hj) hn
    | succ i =>
      cases j with
      | zero =>
        simp at hi hj
        subst hj
        exact absurd (List.mem_of_getElem? hi) hn
      | succ j => rw [nodupN_spec h.2 i j x (by simpa using hi) (by simpa using hj)]

section
variable {mu'' : Mu} {n : Heap} {rho : List Nat}
mutual
theorem pulA_rel (hm : ∀ id ∈ rho, ∀ b, H[id]? = some b → n[idx id rho]? = some (pulB rho b) ∧ mu'' (idx id rho) = mu id) : ∀ (v : AV) (cs : List Value), (∀ id ∈ idsA v, id ∈ rho) → RelA w S mu H v cs → RelA w S mu'' n (pulA rho v) cs
  | .undef, _, _, h => by simp [RelA] at h
  | .int .., cs, _, h => by simpa only [RelA, pulA] using h
  | .bool .., cs, _, h => by simpa only [RelA, pulA] using h
  | .str .., cs, _, h => by simpa only [RelA, pulA] using h
  | .sl e xs .full, cs, _, h => by simpa only [RelA, pulA, RelT] using h
  | .sl e xs .no, cs, _, h => by simpa only [RelA, pulA, RelT] using h
  | .sl e xs (.own id), cs, hi, h => by
    simp only [RelA, pulA] at h ⊢
    obtain ⟨ad, m, c, h0, h1, blk, h2, h3, h4⟩ := h
    obtain ⟨g1, g2⟩ := hm id (hi id (by simp [idsA])) blk h2
    refine ⟨ad, m, c, h0, h1, _, g1, by cases blk <;> first | exact h3 | (simp [Blk.grows] at h3), ?_⟩
    intro e' m' hb
    cases blk <;> simp [pulB] at hb
    obtain ⟨rfl, rfl⟩ := hb
    obtain ⟨q1, q2, q3⟩ := h4 _ _ rfl
    exact ⟨q1, q2, fun hnm => by rw [g2]; exact q3 hnm⟩
  | .rsl id e1 off len, cs, hi, h => by
    simp only [RelA, pulA] at h ⊢
    obtain ⟨ad, c, h0, h1, h2, h3, blk, q4, q5, q6⟩ := h
    obtain ⟨g1, g2⟩ := hm id (hi id (by simp [idsA])) blk q4
    refine ⟨ad, c, h0, h1, h2, h3, _, g1, by cases blk <;> first | exact q5 | (simp [Blk.row] at q5), ?_, ?_⟩
    · intro e' xs' fz' hb
      cases blk <;> simp [pulB] at hb
      obtain ⟨rfl, rfl, rfl⟩ := hb
      rw [g2]
      exact q6.1 _ _ _ rfl
    · intro e' xs' hb
      cases blk <;> simp [pulB] at hb
      obtain ⟨rfl, rfl⟩ := hb
      rw [g2]
      exact q6.2 _ _ rfl
  | .st vs, cs, hi, h => by simp only [RelA, pulA] at h ⊢; exact pulAs_rel hm vs cs (fun id hid => hi id (by simpa [idsA] using hid)) h
  | .arr .., cs, _, h => by simpa only [RelA, pulA] using h
  | .ptr id p ty, cs, hi, h => by
    simp only [RelA, pulA] at h ⊢
    obtain ⟨b, o, h0, blk, q1, q2, q3⟩ := h
    obtain ⟨g1, g2⟩ := hm id (hi id (by simp [idsA])) blk q1
    refine ⟨b, o, h0, _, g1, by cases blk <;> exact q2, fun hh => ?_⟩
    rw [g2]
    cases blk with
    | var t v fz =>
      obtain ⟨k1, k2, k3⟩ := q3 (.inl ⟨_, _, _, rfl⟩)
      exact ⟨k1, by cases p <;> exact k2, by cases p <;> exact k3⟩
    | fix e xs fz => exact q3 (.inr ⟨_, _, _, rfl⟩)
    | resv => simp [pulB] at hh
    | dead => simp [pulB] at hh
    | ext e m => simp [pulB] at hh
    | grw e m => simp [pulB] at hh
  | .cptr .., cs, _, h => by simpa only [RelA, pulA] using h
  | .nilp, cs, _, h => by simpa only [RelA, pulA] using h
  | .fn f caps, cs, hi, h => by
    simp only [RelA, pulA] at h ⊢
    obtain ⟨vs, h0, h1⟩ := h
    exact ⟨vs, h0, pulC_rel hm caps _ (fun id hid => hi id (by simpa [idsA] using hid)) h1⟩
  | .nilfn, cs, _, h => by simpa only [RelA, pulA] using h
  | .tup _, _, _, h => by simp [RelA] at h
theorem pulAs_rel (hm : ∀ id ∈ rho, ∀ b, H[id]? = some b → n[idx id rho]? = some (pulB rho b) ∧ mu'' (idx id rho) = mu id) : ∀ (vs : List AV) (cs : List Value), (∀ id ∈ idsAs vs, id ∈ rho) → RelAs w S mu H vs cs → RelAs w S mu'' n (pulAs rho vs) cs
  | [], cs, _, h => by simpa only [RelAs, pulAs] using h
  | v :: vs, cs, hi, h => by
    simp only [RelAs, pulAs] at h ⊢
    obtain ⟨c1, c2, h0, h1, h2⟩ := h
    exact ⟨c1, c2, h0, pulA_rel hm v c1 (fun id hid => hi id (by simp [idsAs, hid])) h1, pulAs_rel hm vs c2 (fun id hid => hi id (by simp [idsAs, hid])) h2⟩
theorem pulC_rel (hm : ∀ id ∈ rho, ∀ b, H[id]? = some b → n[idx id rho]? = some (pulB rho b) ∧ mu'' (idx id rho) = mu id) : ∀ (vs : List AV) (cs : List Value), (∀ id ∈ idsAs vs, id ∈ rho) → RelC w S mu H vs cs → RelC w S mu'' n (pulAs rho vs) cs
  | [], cs, _, h => by simpa only [RelC, pulAs] using h
  | v :: vs, cs, hi, h => by
    simp only [RelC, pulAs] at h ⊢
    obtain ⟨c, cs', h0, h1, h2⟩ := h
    exact ⟨c, cs', h0, pulA_rel hm v [c] (fun id hid => hi id (by simp [idsAs, hid])) h1, pulC_rel hm vs cs' (fun id hid => hi id (by simp [idsAs, hid])) h2⟩
end
mutual
theorem pulV_rel (hm : ∀ id ∈ rho, ∀ b, H[id]? = some b → n[idx id rho]? = some (pulB rho b) ∧ mu'' (idx id rho) = mu id) : ∀ (v : AV) (u : Value), (∀ id ∈ idsA v, id ∈ rho) → RelV w S mu H v u → RelV w S mu'' n (pulA rho v) u
  | .undef, _, _, _ => by simp only [RelV, pulA]
  | .tup vs, u, hi, h => by
    simp only [RelV, pulA] at h ⊢
    obtain ⟨us, h0, h1⟩ := h
    exact ⟨us, h0, pulVs_rel hm vs _ (fun id hid => hi id (by simpa [idsA] using hid)) h1⟩
  | .st vs, u, hi, h => by
    simp only [RelV, pulA] at h ⊢
    obtain ⟨cs, h0, h1⟩ := h
    exact ⟨cs, h0, by have := pulA_rel hm _ _ hi h1; simpa only [pulA] using this⟩
  | .arr m e xs, u, hi, h => by
    simp only [RelV, pulA] at h ⊢
    obtain ⟨cs, h0, h1⟩ := h
    exact ⟨cs, h0, by have := pulA_rel hm _ _ hi h1; simpa only [pulA] using this⟩
  | .int .., u, hi, h => by simp only [RelV] at h; have := pulA_rel hm _ _ hi h; simpa only [RelV, pulA] using this
  | .bool .., u, hi, h => by simp only [RelV] at h; have := pulA_rel hm _ _ hi h; simpa only [RelV, pulA] using this
  | .str .., u, hi, h => by simp only [RelV] at h; have := pulA_rel hm _ _ hi h; simpa only [RelV, pulA] using this
  | .sl e xs .no, u, hi, h => by simp only [RelV] at h; have := pulA_rel hm _ _ hi h; simpa only [RelV, pulA] using this
  | .sl e xs .full, u, hi, h => by simp only [RelV] at h; have := pulA_rel hm _ _ hi h; simpa only [RelV, pulA] using this
  | .sl e xs (.own id), u, hi, h => by simp only [RelV] at h; have := pulA_rel hm _ _ hi h; simpa only [RelV, pulA] using this
  | .rsl .., u, hi, h => by simp only [RelV] at h; have := pulA_rel hm _ _ hi h; simpa only [RelV, pulA] using this
  | .ptr .., u, hi, h => by simp only [RelV] at h; have := pulA_rel hm _ _ hi h; simpa only [RelV, pulA] using this
  | .cptr .., u, hi, h => by simp only [RelV] at h; have := pulA_rel hm _ _ hi h; simpa only [RelV, pulA] using this
  | .nilp, u, hi, h => by simp only [RelV] at h; have := pulA_rel hm _ _ hi h; simpa only [RelV, pulA] using this
  | .fn .., u, hi, h => by simp only [RelV] at h; have := pulA_rel hm _ _ hi h; simpa only [RelV, pulA] using this
  | .nilfn, u, hi, h => by simp only [RelV] at h; have := pulA_rel hm _ _ hi h; simpa only [RelV, pulA] using this
theorem pulVs_rel (hm : ∀ id ∈ rho, ∀ b, H[id]? = some b → n[idx id rho]? = some (pulB rho b) ∧ mu'' (idx id rho) = mu id) : ∀ (vs : List AV) (us : List Value), (∀ id ∈ idsAs vs, id ∈ rho) → RelVs w S mu H vs us → RelVs w S mu'' n (pulAs rho vs) us
  | [], us, _, h => by simpa only [RelVs, pulAs] using h
  | v :: vs, us, hi, h => by
    simp only [RelVs, pulAs] at h ⊢
    obtain ⟨u, us', h0, h1, h2⟩ := h
    exact ⟨u, us', h0, pulV_rel hm v u (fun id hid => hi id (by simp [idsAs, hid])) h1, pulVs_rel hm vs us' (fun id hid => hi id (by simp [idsAs, hid])) h2⟩
end
mutual
theorem fitsV_pul (rho : List Nat) : ∀ (v : AV) (T : Ty), fitsV v T = true → fitsV (pulA rho v) T = true
  | .undef, T, h => by cases T <;> simp [fitsV] at h
  | .int .., T, h => by simpa only [pulA] using h
  | .bool .., T, h => by simpa only [pulA] using h
  | .str .., T, h => by simpa only [pulA] using h
  | .sl e xs t, T, h => by cases t <;> cases T <;> simp [fitsV] at h <;> simp [pulA, fitsV, h]
  | .rsl .., T, h => by cases T <;> simp [fitsV] at h <;> simp [pulA, fitsV, h]
  | .ptr .., T, h => by cases T <;> simp [fitsV] at h <;> simp [pulA, fitsV]
  | .st vs, T, h => by
    cases T <;> simp [fitsV] at h
    simp only [pulA, fitsV]
    exact fitsVs_pul rho vs _ h
  | .fn f vs, T, h => by cases T <;> simp [fitsV] at h <;> simp [pulA, fitsV]
  | .tup vs, T, h => by cases T <;> simp [fitsV] at h
  | .arr .., T, h => by simpa only [pulA] using h
  | .cptr .., T, h => by simpa only [pulA] using h
  | .nilp, T, h => by simpa only [pulA] using h
  | .nilfn, T, h => by simpa only [pulA] using h
theorem fitsVs_pul (rho : List Nat) : ∀ (vs : List AV) (ts : List Ty), fitsVs vs ts = true → fitsVs (pulAs rho vs) ts = true
  | [], [], _ => rfl
  | [], _ :: _, h => by simp [fitsVs] at h
  | _ :: _, [], h => by simp [fitsVs] at h
  | v :: vs, t :: ts, h => by
    simp [fitsVs] at h
    simp [pulAs, fitsVs, fitsV_pul rho v t h.1, fitsVs_pul rho vs ts h.2]
end
end

theorem blks_get (h : Heap) : ∀ (ids : List Nat) (i : Nat), (blks h ids)[i]? = (ids[i]?).map fun id => h.getD id .dead
  | [], i => by simp [blks]
  | id :: r, 0 => by simp [blks]
  | id :: r, i + 1 => by simp [blks, blks_get h r i]
theorem pulBs_get (rho : List Nat) : ∀ (l : List Blk) (i : Nat), (pulBs rho l)[i]? = (l[i]?).map (pulB rho)
  | [], i => by simp [pulBs]
  | b :: r, 0 => by simp [pulBs]
  | b :: r, i + 1 => by simp [pulBs, pulBs_get rho r i]
theorem bids_mem : ∀ (l : List Blk) (b : Blk), b ∈ l → ∀ id ∈ idsB b, id ∈ bids l
  | [], b, h => by simp at h
  | x :: r, b, h => fun id hid => by
    simp only [bids, List.mem_append]
    rcases List.mem_cons.1 h with rfl | h
    · exact .inl hid
    · exact .inr (bids_mem r b h id hid)
theorem allIn_spec {ids rho : List Nat} (h : allIn ids rho = true) : ∀ id ∈ ids, id ∈ rho := fun id hid => memN_spec.1 (List.all_eq_true.1 h id hid)

end
section
variable {w : World} {S : SetS} {mu mu'' : Mu} {n H'' : Heap} {f : Nat → Nat}
mutual
theorem gmA_rel (hm : ∀ id b, n[id]? = some b → H''[f id]? = some (gmB f b) ∧ mu'' (f id) = mu id) : ∀ (v : AV) (cs : List Value), RelA w S mu n v cs → RelA w S mu'' H'' (gmA f v) cs
  | .undef, _, h => by simp [RelA] at h
  | .int k n, cs, h => by simpa only [RelA, gmA] using h
  | .bool b, cs, h => by simpa only [RelA, gmA] using h
  | .str s, cs, h => by simpa only [RelA, gmA] using h
  | .sl e xs .full, cs, h => by simpa only [RelA, gmA, RelT] using h
  | .sl e xs .no, cs, h => by simpa only [RelA, gmA, RelT] using h
  | .sl e xs (.own id), cs, h => by
    simp only [RelA, gmA] at h ⊢
    obtain ⟨ad, m, c, h0, h1, blk, h2, h3, h4⟩ := h
    obtain ⟨g1, g2⟩ := hm id blk h2
    refine ⟨ad, m, c, h0, h1, _, g1, by cases blk <;> first | exact h3 | (simp [Blk.grows] at h3), ?_⟩
    intro e' m' hb
    cases blk <;> simp [gmB] at hb
    obtain ⟨rfl, rfl⟩ := hb
    obtain ⟨q1, q2, q3⟩ := h4 _ _ rfl
    exact ⟨q1, q2, fun hnm => by rw [g2]; exact q3 hnm⟩
  | .rsl id e1 off len, cs, h => by
    simp only [RelA, gmA] at h ⊢
    obtain ⟨ad, c, h0, h1, h2, h3, blk, q4, q5, q6⟩ := h
    obtain ⟨g1, g2⟩ := hm id blk q4
    refine ⟨ad, c, h0, h1, h2, h3, _, g1, by cases blk <;> first | exact q5 | (simp [Blk.row] at q5), ?_, ?_⟩
    · intro e' xs' fz' hb
      cases blk <;> simp [gmB] at hb
      obtain ⟨rfl, rfl, rfl⟩ := hb
      rw [g2]
      exact q6.1 _ _ _ rfl
    · intro e' xs' hb
      cases blk <;> simp [gmB] at hb
      obtain ⟨rfl, rfl⟩ := hb
      rw [g2]
      exact q6.2 _ _ rfl
  | .st vs, cs, h => by simp only [RelA, gmA] at h ⊢; exact gmAs_rel hm vs cs h
  | .arr n e xs, cs, h => by simpa only [RelA, gmA] using h
  | .ptr id p ty, cs, h => by
    simp only [RelA, gmA] at h ⊢
    obtain ⟨b, o, h0, blk, q1, q2, q3⟩ := h
    obtain ⟨g1, g2⟩ := hm id blk q1
    refine ⟨b, o, h0, _, g1, by cases blk <;> exact q2, fun hh => ?_⟩
    rw [g2]
    cases blk with
    | var t v fz =>
      obtain ⟨k1, k2, k3⟩ := q3 (.inl ⟨_, _, _, rfl⟩)
      exact ⟨k1, by cases p <;> exact k2, by cases p <;> exact k3⟩
    | fix e xs fz => exact q3 (.inr ⟨_, _, _, rfl⟩)
    | resv => simp [gmB] at hh
    | dead => simp [gmB] at hh
    | ext e m => simp [gmB] at hh
    | grw e m => simp [gmB] at hh
  | .cptr t d, cs, h => by simpa only [RelA, gmA] using h
  | .nilp, cs, h => by simpa only [RelA, gmA] using h
  | .fn f caps, cs, h => by
    simp only [RelA, gmA] at h ⊢
    obtain ⟨vs, h0, h1⟩ := h
    exact ⟨vs, h0, gmC_rel hm caps _ h1⟩
  | .nilfn, cs, h => by simpa only [RelA, gmA] using h
  | .tup _, _, h => by simp [RelA] at h
theorem gmAs_rel (hm : ∀ id b, n[id]? = some b → H''[f id]? = some (gmB f b) ∧ mu'' (f id) = mu id) : ∀ (vs : List AV) (cs : List Value), RelAs w S mu n vs cs → RelAs w S mu'' H'' (gmAs f vs) cs
  | [], cs, h => by simpa only [RelAs, gmAs] using h
  | v :: vs, cs, h => by
    simp only [RelAs, gmAs] at h ⊢
    obtain ⟨c1, c2, h0, h1, h2⟩ := h
    exact ⟨c1, c2, h0, gmA_rel hm v c1 h1, gmAs_rel hm vs c2 h2⟩
theorem gmC_rel (hm : ∀ id b, n[id]? = some b → H''[f id]? = some (gmB f b) ∧ mu'' (f id) = mu id) : ∀ (vs : List AV) (cs : List Value), RelC w S mu n vs cs → RelC w S mu'' H'' (gmAs f vs) cs
  | [], cs, h => by simpa only [RelC, gmAs] using h
  | v :: vs, cs, h => by
    simp only [RelC, gmAs] at h ⊢
    obtain ⟨c, cs', h0, h1, h2⟩ := h
    exact ⟨c, cs', h0, gmA_rel hm v [c] h1, gmC_rel hm vs cs' h2⟩
end
mutual
theorem gmV_rel (hm : ∀ id b, n[id]? = some b → H''[f id]? = some (gmB f b) ∧ mu'' (f id) = mu id) : ∀ (v : AV) (u : Value), RelV w S mu n v u → RelV w S mu'' H'' (gmA f v) u
  | .undef, _, _ => by simp only [RelV, gmA]
  | .tup vs, u, h => by
    simp only [RelV, gmA] at h ⊢
    obtain ⟨us, h0, h1⟩ := h
    exact ⟨us, h0, gmVs_rel hm vs _ h1⟩
  | .st vs, u, h => by
    simp only [RelV, gmA] at h ⊢
    obtain ⟨cs, h0, h1⟩ := h
    exact ⟨cs, h0, by have := gmA_rel hm _ _ h1; simpa only [gmA] using this⟩
  | .arr m e xs, u, h => by
    simp only [RelV, gmA] at h ⊢
    obtain ⟨cs, h0, h1⟩ := h
    exact ⟨cs, h0, by have := gmA_rel hm _ _ h1; simpa only [gmA] using this⟩
  | .int .., u, h => by simp only [RelV] at h; have := gmA_rel hm _ _ h; simpa only [RelV, gmA] using this
  | .bool .., u, h => by simp only [RelV] at h; have := gmA_rel hm _ _ h; simpa only [RelV, gmA] using this
  | .str .., u, h => by simp only [RelV] at h; have := gmA_rel hm _ _ h; simpa only [RelV, gmA] using this
  | .sl e xs .no, u, h => by simp only [RelV] at h; have := gmA_rel hm _ _ h; simpa only [RelV, gmA] using this
  | .sl e xs .full, u, h => by simp only [RelV] at h; have := gmA_rel hm _ _ h; simpa only [RelV, gmA] using this
  | .sl e xs (.own id), u, h => by simp only [RelV] at h; have := gmA_rel hm _ _ h; simpa only [RelV, gmA] using this
  | .rsl .., u, h => by simp only [RelV] at h; have := gmA_rel hm _ _ h; simpa only [RelV, gmA] using this
  | .ptr .., u, h => by simp only [RelV] at h; have := gmA_rel hm _ _ h; simpa only [RelV, gmA] using this
  | .cptr .., u, h => by simp only [RelV] at h; have := gmA_rel hm _ _ h; simpa only [RelV, gmA] using this
  | .nilp, u, h => by simp only [RelV] at h; have := gmA_rel hm _ _ h; simpa only [RelV, gmA] using this
  | .fn .., u, h => by simp only [RelV] at h; have := gmA_rel hm _ _ h; simpa only [RelV, gmA] using this
  | .nilfn, u, h => by simp only [RelV] at h; have := gmA_rel hm _ _ h; simpa only [RelV, gmA] using this
theorem gmVs_rel (hm : ∀ id b, n[id]? = some b → H''[f id]? = some (gmB f b) ∧ mu'' (f id) = mu id) : ∀ (vs : List AV) (us : List Value), RelVs w S mu n vs us → RelVs w S mu'' H'' (gmAs f vs) us
  | [], us, h => by simpa only [RelVs, gmAs] using h
  | v :: vs, us, h => by
    simp only [RelVs, gmAs] at h ⊢
    obtain ⟨u, us', h0, h1, h2⟩ := h
    exact ⟨u, us', h0, gmV_rel hm v u h1, gmVs_rel hm vs us' h2⟩
end
end

mutual
theorem fitsV_gm (f : Nat → Nat) : ∀ (v : AV) (T : Ty), fitsV v T = true → fitsV (gmA f v) T = true
  | .undef, T, h => by cases T <;> simp [fitsV] at h
  | .int .., T, h => by simpa only [gmA] using h
  | .bool .., T, h => by simpa only [gmA] using h
  | .str .., T, h => by simpa only [gmA] using h
  | .sl e xs t, T, h => by cases t <;> cases T <;> simp [fitsV] at h <;> simp [gmA, fitsV, h]
  | .rsl .., T, h => by cases T <;> simp [fitsV] at h <;> simp [gmA, fitsV, h]
  | .ptr .., T, h => by cases T <;> simp [fitsV] at h <;> simp [gmA, fitsV]
  | .st vs, T, h => by
    cases T <;> simp [fitsV] at h
    simp only [gmA, fitsV]
    exact fitsVs_gm f vs _ h
  | .fn f' vs, T, h => by cases T <;> simp [fitsV] at h <;> simp [gmA, fitsV]
  | .tup vs, T, h => by cases T <;> simp [fitsV] at h
  | .arr .., T, h => by simpa only [gmA] using h
  | .cptr .., T, h => by simpa only [gmA] using h
  | .nilp, T, h => by simpa only [gmA] using h
  | .nilfn, T, h => by simpa only [gmA] using h
theorem fitsVs_gm (f : Nat → Nat) : ∀ (vs : List AV) (ts : List Ty), fitsVs vs ts = true → fitsVs (gmAs f vs) ts = true
  | [], [], _ => rfl
  | [], _ :: _, h => by simp [fitsVs] at h
  | _ :: _, [], h => by simp [fitsVs] at h
  | v :: vs, t :: ts, h => by
    simp [fitsVs] at h
    simp [gmAs, fitsVs, fitsV_gm f v t h.1, fitsVs_gm f vs ts h.2]
end

theorem gmB_live (f : Nat → Nat) (b : Blk) : (gmB f b).live = b.live := by cases b <;> rfl

theorem gmB_rel {w : World} {S : SetS} {mu mu'' : Mu} {n H'' : Heap} {f : Nat → Nat} (hm : ∀ id b, n[id]? = some b → H''[f id]? = some (gmB f b) ∧ mu'' (f id) = mu id) {id : Nat} {b : Blk} (hid : n[id]? = some b) (h : RelB w S mu n id b) : RelB w S mu'' H'' (f id) (gmB f b) := by
  have hmu := (hm id b hid).2
  cases b with
  | resv => trivial
  | dead => trivial
  | var t v fz =>
    obtain ⟨b, cells, ty, h1, h2, h3, h4, h5, h6⟩ := h
    exact ⟨b, cells, ty, by rw [hmu, h1], h2, h3, gmA_rel hm _ _ h4, fitsV_gm f _ _ h5, h6⟩
  | fix e xs fz =>
    obtain ⟨b, cells, ty, h1, h2, h3, h4, h5, h6⟩ := h
    exact ⟨b, cells, ty, by rw [hmu, h1], h2, h3, h4, h5, h6⟩
  | ext e m =>
    obtain ⟨h0, h1⟩ := h
    refine ⟨h0, ?_⟩
    rcases h1 with ⟨h1, h2⟩ | ⟨b, cells, ty, h1, h2, h3, h4⟩
    · exact .inl ⟨h1, by rw [hmu, h2]⟩
    · exact .inr ⟨b, cells, ty, by rw [hmu, h1], h2, h3, h4⟩
  | grw e xs =>
    obtain ⟨h0, h1⟩ := h
    refine ⟨h0, ?_⟩
    rcases h1 with ⟨h1, h2⟩ | ⟨b, cells, ty, h1, h2, h3, h4⟩
    · exact .inl ⟨h1, by rw [hmu, h2]⟩
    · exact .inr ⟨b, cells, ty, by rw [hmu, h1], h2, h3, h4⟩


/-! ### Writes -/
/-- The last of writes at a place. -/
def lastW : List (Nat × Blk) → Nat → Option Blk
  | [], _ => none
  | (i, b) :: r, j => match lastW r j with
    | some c => some c
    | none => if i = j then some b else none
theorem lastW_none : ∀ (ws : List (Nat × Blk)) (j : Nat), lastW ws j = none ↔ j ∉ ws.map (·.1)
  | [], j => by simp [lastW]
  | (i, b) :: r, j => by
    have ih := lastW_none r j
    simp only [lastW, List.map_cons, List.mem_cons, not_or]
    cases hl : lastW r j with
    | some c =>
      rw [hl] at ih
      simp at ih
      simp [ih]
    | none =>
      rw [hl] at ih
      simp only [true_iff] at ih
      by_cases hi : i = j
      · simp [hi]
      · rw [if_neg hi]; simp [ih, Ne.symm hi]
theorem setAll_length : ∀ (ws : List (Nat × Blk)) (H : Heap), (setAll H ws).length = H.length
  | [], _ => rfl
  | (i, b) :: r, H => by simp only [setAll]; rw [setAll_length r]; simp
theorem setAll_get : ∀ (ws : List (Nat × Blk)) (H : Heap) (j : Nat), (setAll H ws)[j]? = match lastW ws j with
    | some b => if j < H.length then some b else none
    | none => H[j]?
  | [], H, j => rfl
  | (i, b) :: r, H, j => by
    simp only [setAll, lastW]
    rw [setAll_get r]
    cases hl : lastW r j with
    | some c => simp
    | none =>
      simp only
      rw [List.getElem?_set]
      by_cases hi : i = j
      · subst hi
        simp
      · simp [hi]
/-! ### A part of memory -/
section
variable {P : Program} {w : World} {S : SetS} {mu : Mu} {H : Heap} {env : Env} {a : Act} {nt : Nat}

theorem idx_lt {x : Nat} {l : List Nat} (h : x ∈ l) : idx x l < l.length := by
  have := idx_get h
  rcases Nat.lt_or_ge (idx x l) l.length with h1 | h1
  · exact h1
  · rw [List.getElem?_eq_none h1] at this; cases this
theorem idx_at {l : List Nat} (hn : nodupN l = true) {i x : Nat} (h : l[i]? = some x) : idx x l = i :=
  nodupN_spec hn _ _ x (idx_get (List.mem_of_getElem? h)) h
theorem pushW_last (f : Nat → Nat) : ∀ (rho : List Nat) (n : Heap) (j : Nat), nodupN rho = true → n.length = rho.length → lastW (pushW f rho n) j = if j ∈ rho then (n[idx j rho]?).map (gmB f) else none
  | [], n, j, _, hl => by simp [pushW, lastW]
  | id :: r, [], j, _, hl => by simp at hl
  | id :: r, b :: n, j, hn, hl => by
    simp only [nodupN, Bool.and_eq_true] at hn
    have hni : id ∉ r := fun hm => by have := memN_spec.2 hm; rw [this] at hn; simp at hn
    simp only [pushW, lastW]
    rw [pushW_last f r n j hn.2 (by simpa using hl)]
    by_cases hj : j ∈ r
    · have hne : id ≠ j := fun e => hni (e ▸ hj)
      have hb : Nat.beq id j = false := by
        cases h : Nat.beq id j with
        | true => exact absurd (Nat.eq_of_beq_eq_true h) hne
        | false => rfl
      rw [if_pos hj, if_pos (List.mem_cons_of_mem _ hj)]
      have hlt := idx_lt hj
      simp only [idx, hb, cond_false, List.getElem?_cons_succ]
      have hlt' : idx j r < n.length := by simp at hl; omega
      rw [List.getElem?_eq_getElem hlt']
      rfl
    · rw [if_neg hj]
      simp only
      by_cases hij : id = j
      · subst hij
        simp [idx]
      · rw [if_neg hij, if_neg (by simp [hj, Ne.symm hij])]
def mulOf (mu : Mu) (rho : List Nat) : Mu := fun i => match rho[i]? with | some id => mu id | none => none
theorem mulOf_at {rho : List Nat} {i id : Nat} (h : rho[i]? = some id) : mulOf mu rho i = mu id := by simp only [mulOf, h]
theorem mulOf_some {rho : List Nat} {i b : Nat} (h : mulOf mu rho i = some b) : ∃ id, rho[i]? = some id ∧ mu id = some b := by
  cases hr : rho[i]? with
  | none => simp only [mulOf, hr] at h; cases h
  | some id => rw [mulOf_at hr] at h; exact ⟨id, by first | exact hr | rfl, h⟩
theorem pul_get (rho : List Nat) (i : Nat) : (pulBs rho (blks H rho))[i]? = (rho[i]?).map fun id => pulB rho (H.getD id .dead) := by
  rw [pulBs_get, blks_get]
  cases rho[i]? <;> rfl
theorem pul_hm (rho : List Nat) : ∀ id ∈ rho, ∀ b, H[id]? = some b → (pulBs rho (blks H rho))[idx id rho]? = some (pulB rho b) ∧ mulOf mu rho (idx id rho) = mu id := fun id hid b hb => by
  have hi := idx_get hid
  refine ⟨?_, mulOf_at hi⟩
  rw [pul_get, hi]
  simp only [Option.map_some]
  rw [List.getD_eq_getElem?_getD, hb]
  rfl
/-- A part of memory, seen by itself. -/
theorem pul_heap {rho : List Nat} (hH : RelH w S mu H) (h1 : nodupN rho = true) (h3 : allIn (bids (blks H rho)) rho = true) : RelH w S (mulOf mu rho) (pulBs rho (blks H rho)) := by
  have hm := pul_hm (H := H) (mu := mu) rho
  have hsome : ∀ i b, (pulBs rho (blks H rho))[i]? = some b → ∃ id, rho[i]? = some id ∧ b = pulB rho (H.getD id .dead) := fun i b hb => by
    rw [pul_get] at hb
    cases hr : rho[i]? with
    | none => rw [hr] at hb; cases hb
    | some id => rw [hr] at hb; exact ⟨id, by first | exact hr | rfl, by simpa using hb.symm⟩
  have hlive : ∀ b, (pulB rho b).live = b.live := fun b => by cases b <;> rfl
  have hHlive : ∀ id, (H.getD id .dead).live = true → H[id]? = some (H.getD id .dead) := fun id h => getD_blk rfl (fun e => by rw [e] at h; cases h)
  refine ⟨fun i b hb => ?_, fun i j bi bj b hi hj li lj mi mj => ?_, hH.there, fun i b hi => ?_⟩
  · obtain ⟨id, hid, rfl⟩ := hsome i b hb
    have hmi := mulOf_at (mu := mu) hid
    cases hx : H.getD id .dead with
    | resv => trivial
    | dead => trivial
    | var t u fz =>
      have hb' := getD_blk hx (by simp)
      obtain ⟨b, cells, ty, k1, k2, k3, k4, k5, k6⟩ := hH.blk id _ hb'
      refine ⟨b, cells, ty, by rw [hmi, k1], k2, k3, pulA_rel hm _ _ (fun x hxm => ?_) k4, fitsV_pul rho _ _ k5, k6⟩
      refine allIn_spec h3 x (bids_mem _ (H.getD id .dead) ?_ x (by rw [hx]; exact hxm))
      have : (blks H rho)[i]? = some (H.getD id .dead) := by rw [blks_get, hid]; rfl
      exact List.mem_of_getElem? this
    | fix e xs fz =>
      have hb' := getD_blk hx (by simp)
      obtain ⟨b, cells, ty, k1, k2, k3, k4, k5, k6⟩ := hH.blk id _ hb'
      exact ⟨b, cells, ty, by rw [hmi, k1], k2, k3, k4, k5, k6⟩
    | ext e m =>
      have hb' := getD_blk hx (by simp)
      obtain ⟨k0, k1⟩ := hH.blk id _ hb'
      refine ⟨k0, ?_⟩
      rcases k1 with ⟨k1, k2⟩ | ⟨b, cells, ty, k1, k2, k3, k4⟩
      · exact .inl ⟨k1, by rw [hmi, k2]⟩
      · exact .inr ⟨b, cells, ty, by rw [hmi, k1], k2, k3, k4⟩
    | grw e xs =>
      have hb' := getD_blk hx (by simp)
      obtain ⟨k0, k1⟩ := hH.blk id _ hb'
      refine ⟨k0, ?_⟩
      rcases k1 with ⟨k1, k2⟩ | ⟨b, cells, ty, k1, k2, k3, k4⟩
      · exact .inl ⟨k1, by rw [hmi, k2]⟩
      · exact .inr ⟨b, cells, ty, by rw [hmi, k1], k2, k3, k4⟩
  · obtain ⟨id1, hid1, rfl⟩ := hsome i bi hi
    obtain ⟨id2, hid2, rfl⟩ := hsome j bj hj
    rw [hlive] at li lj
    rw [mulOf_at hid1] at mi
    rw [mulOf_at hid2] at mj
    have := hH.inj id1 id2 _ _ b (hHlive _ li) (hHlive _ lj) li lj mi mj
    subst this
    exact nodupN_spec h1 i j id1 hid1 hid2
  · obtain ⟨id, _, h⟩ := mulOf_some hi
    exact hH.mus id b h

theorem liveAll_spec : ∀ (l : List Blk), liveAll l = true → ∀ b ∈ l, b.live = true
  | [], _, b, h => by simp at h
  | x :: r, h, b, hb => by
    simp only [liveAll, Bool.and_eq_true] at h
    rcases List.mem_cons.1 hb with rfl | hb
    · have := h.1
      cases b <;> first | rfl | (simp [liveB] at this)
    · exact liveAll_spec r h.2 b hb

/-- A call with a part of memory, seen by the caller. -/
theorem loc_turn {w' : World} {S' : SetS} {mu' : Mu} {n : Heap} {r : AV} {v : Value} {rho : List Nat} (h : Rel nt w S mu H env a) (hnd : nodupN rho = true) (hlv : liveAll (blks H rho) = true)
    (hv : RelV w' S' mu' n r v) (hH : RelH w' S' mu' n) (hE : Ev w S (mulOf mu rho) (pulBs rho (blks H rho)) w' S' mu' n) (hlen : n.length = rho.length) :
    ∃ mu'', Rel nt w' S' mu'' (setAll H (pushW (fun i => rho.getD i 0) rho n)) env a ∧ Ev w S mu H w' S' mu'' (setAll H (pushW (fun i => rho.getD i 0) rho n)) ∧ RelV w' S' mu'' (setAll H (pushW (fun i => rho.getD i 0) rho n)) (gmA (fun i => rho.getD i 0) r) v := by
  classical
  generalize hf : (fun i => rho.getD i 0) = f
  have hfi : ∀ i id, rho[i]? = some id → f i = id := fun i id hi => by rw [← hf]; simp [hi]
  have hin : ∀ id, id ∈ rho → ∃ b, H[id]? = some b ∧ b.live = true := fun id hid => by
    obtain ⟨i, hi⟩ := List.getElem?_of_mem hid
    have h1 : (blks H rho)[i]? = some (H.getD id .dead) := by rw [blks_get, hi]; rfl
    have h2 := liveAll_spec _ hlv _ (List.mem_of_getElem? h1)
    exact ⟨_, getD_blk rfl (fun e => by rw [e] at h2; cases h2), h2⟩
  have hget : ∀ j, (setAll H (pushW f rho n))[j]? = if j ∈ rho then (n[idx j rho]?).map (gmB f) else H[j]? := fun j => by
    rw [setAll_get, pushW_last f rho n j hnd hlen]
    by_cases hj : j ∈ rho
    · rw [if_pos hj, if_pos hj]
      obtain ⟨b, hb, _⟩ := hin j hj
      have hlt := lt_of_get hb
      have hix := idx_lt hj
      rw [List.getElem?_eq_getElem (by omega)]
      simp [hlt]
    · rw [if_neg hj, if_neg hj]
  let mu'' : Mu := fun j => if j ∈ rho then mu' (idx j rho) else mu j
  have m1 : ∀ j, j ∈ rho → mu'' j = mu' (idx j rho) := fun j hj => if_pos hj
  have m2 : ∀ j, j ∉ rho → mu'' j = mu j := fun j hj => if_neg hj
  have hm : ∀ i b, n[i]? = some b → (setAll H (pushW f rho n))[f i]? = some (gmB f b) ∧ mu'' (f i) = mu' i := fun i b hb => by
    have hi := lt_of_get hb
    have hr := List.getElem?_eq_getElem (l := rho) (i := i) (by omega)
    have hmem := List.mem_of_getElem? hr
    have hix := idx_at hnd hr
    rw [hfi i _ hr, hget, if_pos hmem, hix, hb, m1 _ hmem, hix]
    exact ⟨rfl, rfl⟩
  have hmul : ∀ i b, mulOf mu rho i = some b → ∃ id bk, id ∈ rho ∧ mu id = some b ∧ H[id]? = some bk ∧ bk.live = true := fun i b hi => by
    obtain ⟨id, h1, h2⟩ := mulOf_some hi
    have hmem := List.mem_of_getElem? h1
    obtain ⟨bk, h3, h4⟩ := hin id hmem
    exact ⟨id, bk, hmem, h2, h3, h4⟩
  have hT : Turn w S mu H w' S' mu'' (setAll H (pushW f rho n)) := by
    refine ⟨hE.turn.stab, hE.turn.wide, fun j b hb => ?_⟩
    rw [hget]
    by_cases hj : j ∈ rho
    · rw [if_pos hj, m1 j hj]
      obtain ⟨g1, g2⟩ := pul_hm (H := H) (mu := mu) rho j hj b hb
      obtain ⟨b', q1, q2⟩ := hE.turn.compat _ _ g1
      rw [q1]
      refine ⟨_, rfl, ?_⟩
      rw [g2] at q2
      cases b with
      | resv => trivial
      | dead => simp only [pulB, Compat] at q2 ⊢; subst q2; rfl
      | var t v fz =>
        simp only [pulB, Compat] at q2 ⊢
        rcases q2 with rfl | ⟨v', fz', rfl, q3, q4⟩
        · exact .inl rfl
        · exact .inr ⟨_, fz', rfl, q3, q4⟩
      | fix e xs fz =>
        simp only [pulB, Compat] at q2 ⊢
        rcases q2 with rfl | ⟨xs', fz', rfl, q3, q4⟩ | ⟨e', m', rfl⟩
        · exact .inl rfl
        · exact .inr (.inl ⟨xs', fz', rfl, q3, q4⟩)
        · exact .inr (.inr ⟨e', m', rfl⟩)
      | ext e m =>
        simp only [pulB, Compat] at q2 ⊢
        rcases q2 with rfl | ⟨m', rfl, q3⟩
        · exact .inl rfl
        · exact .inr ⟨m', rfl, q3⟩
      | grw e xs =>
        simp only [pulB, Compat] at q2 ⊢
        rcases q2 with rfl | ⟨m', rfl, q3⟩
        · exact .inl rfl
        · exact .inr ⟨m', rfl, q3⟩
    · rw [if_neg hj, m2 j hj]
      exact ⟨b, hb, Compat.refl _ _⟩
  refine ⟨mu'', h.mono hT ?_, ⟨hT, hE.size, hE.os, hE.tape, hE.output, fun b hb hno => hE.frame b hb fun i hi => ?_, fun b o hs => ?_, fun j b hj => ?_⟩, gmV_rel hm r v hv⟩
  · refine turn_sound (· ∈ rho) h.heap hT (fun j hj => ?_) (fun j bk b hj hb hl hmj => ?_) (fun j bk hj hb => ?_) (fun i j bi bj b hi hij hbi hbj li lj mi mj => ?_) hH.there (fun i b hi => ?_)
    · rw [hget, if_neg hj]
      exact ⟨rfl, m2 j hj⟩
    · have hlt := h.heap.mus j b hmj
      have hno : ∀ i, mulOf mu rho i ≠ some b := fun i hi => by
        obtain ⟨id, bk', k1, k2, k3, k4⟩ := hmul i b hi
        have := h.heap.inj id j _ _ b k3 hb k4 hl k2 hmj
        subst this
        exact hj k1
      refine ⟨hE.frame b hlt hno, fun o hs => ?_⟩
      rcases hE.newS b o hs with hs | hs | ⟨i, hi⟩
      · exact hs
      · omega
      · exact absurd hi (hno i)
    · rw [hget, if_pos hj] at hb
      cases hn : n[idx j rho]? with
      | none => rw [hn] at hb; cases hb
      | some b0 =>
        rw [hn] at hb
        simp only [Option.map_some, Option.some.injEq] at hb
        subst hb
        have := gmB_rel hm hn (hH.blk _ _ hn)
        rwa [hfi _ _ (idx_get hj)] at this
    · rw [hget, if_pos hi] at hbi
      rw [m1 i hi] at mi
      cases hn1 : n[idx i rho]? with
      | none => rw [hn1] at hbi; cases hbi
      | some b1 =>
        rw [hn1] at hbi
        simp only [Option.map_some, Option.some.injEq] at hbi
        subst hbi
        rw [gmB_live] at li
        by_cases hj : j ∈ rho
        · rw [hget, if_pos hj] at hbj
          rw [m1 j hj] at mj
          cases hn2 : n[idx j rho]? with
          | none => rw [hn2] at hbj; cases hbj
          | some b2 =>
            rw [hn2] at hbj
            simp only [Option.map_some, Option.some.injEq] at hbj
            subst hbj
            rw [gmB_live] at lj
            have := hH.inj _ _ _ _ b hn1 hn2 li lj mi mj
            have e1 := idx_get hi
            have e2 := idx_get hj
            rw [this, e2] at e1
            exact hij (Option.some.inj e1).symm
        · rw [hget, if_neg hj] at hbj
          rw [m2 j hj] at mj
          have hlt := h.heap.mus j b mj
          rcases hE.newM _ b mi with hx | ⟨i', hx⟩
          · omega
          · obtain ⟨id, bk', k1, k2, k3, k4⟩ := hmul i' b hx
            have := h.heap.inj id j _ _ b k3 hbj k4 lj k2 mj
            subst this
            exact hj k1
    · by_cases hj : i ∈ rho
      · rw [m1 i hj] at hi
        exact hH.mus _ _ hi
      · rw [m2 i hj] at hi
        exact Nat.lt_of_lt_of_le (h.heap.mus i b hi) hE.size
  · obtain ⟨id, _, _, k2, _, _⟩ := hmul i b hi
    exact hno id k2
  · rcases hE.newS b o hs with hs | hs | ⟨i, hi⟩
    · exact .inl hs
    · exact .inr (.inl hs)
    · obtain ⟨id, _, _, k2, _, _⟩ := hmul i b hi
      exact .inr (.inr ⟨id, k2⟩)
  · by_cases hc : j ∈ rho
    · rw [m1 j hc] at hj
      rcases hE.newM _ _ hj with hx | ⟨i, hi⟩
      · exact .inl hx
      · obtain ⟨id, _, _, k2, _, _⟩ := hmul i b hi
        exact .inr ⟨id, k2⟩
    · rw [m2 j hc] at hj
      exact .inr ⟨j, hj⟩

mutual
theorem drpO_rel : ∀ (v : AV) (cs : List Value), RelA w S mu H v cs → RelA w S mu H (drpO v) cs
  | .sl e xs t, cs, h => by
    cases t with
    | own i => simpa only [drpO] using h
    | no => simpa only [drpO] using h
    | full =>
      simp only [drpO, RelA] at h ⊢
      obtain ⟨a, n, c, h0, h1, _⟩ := h
      exact ⟨a, n, c, h0, h1, trivial⟩
  | .st vs, cs, h => by simp only [drpO, RelA] at h ⊢; exact drpOs_rel vs cs h
  | .undef, _, h | .int .., _, h | .bool _, _, h | .str _, _, h | .rsl .., _, h | .arr .., _, h | .ptr .., _, h | .cptr .., _, h | .nilp, _, h | .fn .., _, h | .nilfn, _, h | .tup _, _, h => by simpa only [drpO] using h
theorem drpOs_rel : ∀ (vs : List AV) (cs : List Value), RelAs w S mu H vs cs → RelAs w S mu H (drpOs vs) cs
  | [], cs, h => by simpa only [drpOs] using h
  | v :: vs, cs, h => by
    simp only [drpOs, RelAs] at h ⊢
    obtain ⟨c1, c2, h0, h1, h2⟩ := h
    exact ⟨c1, c2, h0, drpO_rel v c1 h1, drpOs_rel vs c2 h2⟩
end
theorem drpOV_rel (v : AV) (u : Value) (h : RelV w S mu H v u) : RelV w S mu H (drpO v) u := by
  cases v with
  | st vs =>
    simp only [RelV] at h
    obtain ⟨cs, h0, h1⟩ := h
    have := drpO_rel _ _ h1
    simp only [drpO] at this ⊢
    simp only [RelV]
    exact ⟨cs, h0, this⟩
  | sl e xs t =>
    simp only [RelV] at h
    have := drpO_rel _ _ h
    cases t <;> simp only [drpO] at this ⊢ <;> simpa only [RelV] using this
  | _ => simpa only [drpO] using h
theorem drpOVs_rel : ∀ (vs : List AV) (us : List Value), RelVs w S mu H vs us → RelVs w S mu H (drpOs vs) us
  | [], us, h => by simpa only [drpOs] using h
  | v :: vs, us, h => by
    simp only [drpOs, RelVs] at h ⊢
    obtain ⟨u, us', h0, h1, h2⟩ := h
    exact ⟨u, us', h0, drpOV_rel v u h1, drpOVs_rel vs us' h2⟩

theorem RelVs_set : ∀ (vs : List AV) (us : List Value) (j : Nat) (v : AV), RelVs w S mu H vs us → (∀ u, us[j]? = some u → RelV w S mu H v u) → RelVs w S mu H (vs.set j v) us
  | [], us, j, v, h, _ => by simpa using h
  | x :: vs, us, 0, v, h, hu => by
    simp only [RelVs] at h
    obtain ⟨u, us', rfl, h1, h2⟩ := h
    simp only [List.set_cons_zero, RelVs]
    exact ⟨u, us', rfl, hu u rfl, h2⟩
  | x :: vs, us, j + 1, v, h, hu => by
    simp only [RelVs] at h
    obtain ⟨u, us', rfl, h1, h2⟩ := h
    simp only [List.set_cons_succ, RelVs]
    exact ⟨u, us', rfl, h1, RelVs_set vs us' j v h2 fun u' hu' => hu u' (by simpa using hu')⟩
theorem RelVs_getv : ∀ (vs : List AV) (us : List Value) (j : Nat) (u : Value), RelVs w S mu H vs us → us[j]? = some u → RelV w S mu H (vs.getD j .undef) u
  | [], us, j, u, h, hu => by simp only [RelVs] at h; subst h; simp at hu
  | x :: vs, us, 0, u, h, hu => by
    simp only [RelVs] at h
    obtain ⟨u', us', rfl, h1, h2⟩ := h
    simp at hu
    subst hu
    simpa using h1
  | x :: vs, us, j + 1, u, h, hu => by
    simp only [RelVs] at h
    obtain ⟨u', us', rfl, h1, h2⟩ := h
    have := RelVs_getv vs us' j u h2 (by simpa using hu)
    simpa using this
theorem mkArgs_turn : ∀ (mks : List (Nat × Nat × Ty)) (base : Nat) (vs : List AV) (us : List Value) (mu : Mu) (H : Heap) (vs1 : List AV) (h1 : Heap), Rel nt w S mu H env a → RelVs w S mu H vs us → mkArgs base mks vs H = some (vs1, h1) →
    ∃ mu1, Rel nt w S mu1 h1 env a ∧ Ev w S mu H w S mu1 h1 ∧ RelVs w S mu1 h1 vs1 us
  | [], base, vs, us, mu, H, vs1, h1, hR, hv, hm => by
    simp only [mkArgs, Option.some.injEq, Prod.mk.injEq] at hm
    obtain ⟨rfl, rfl⟩ := hm
    exact ⟨mu, hR, Ev.refl _ _ _ _, hv⟩
  | (j, off, e) :: r, base, vs, us, mu, H, vs1, h1, hR, hv, hm => by
    simp only [mkArgs] at hm
    split at hm
    · rename_i u hj
      cases hu : (Ty.same u e && Nat.blt 0 e.size) with
      | false => rw [hu] at hm; cases hm
      | true =>
        rw [hu] at hm
        simp only [cond_true] at hm
        simp only [Bool.and_eq_true] at hu
        have hse := Ty.same_eq _ _ hu.1
        subst hse
        split at hm
        · rename_i hb
          have hb' := getD_blk hb (by simp)
          obtain ⟨mu', g1, g2⟩ := mk_turn hR hb' (e := u) (by simpa using hu.2)
          have hv2 : RelVs w S mu' (H.set (base + off) (.ext u 0)) (vs.set j (.sl u [] (.own (base + off)))) us := by
            refine RelVs_set _ _ _ _ (RelVs.mono g2.turn _ _ hv) fun x hx => ?_
            have := RelVs_getv vs us j x hv hx
            rw [hj] at this
            simp only [RelV, RelA] at this ⊢
            obtain ⟨ad, n, c, e1, ⟨q1, q2, q3, _⟩, q4⟩ := this
            simp only [RelT] at q4
            simp at q1
            subst q1; subst q4
            refine ⟨ad, 0, 0, e1, ⟨rfl, Nat.le_refl _, by simp [maxLen], fun j x hj => by simp at hj⟩, .ext u 0, by rw [set_get (lt_of_get hb'), if_pos rfl], rfl, ?_⟩
            intro e' m hh
            injection hh with q1 q2
            subst q1; subst q2
            exact ⟨rfl, Nat.le_refl _, fun _ => .inl rfl⟩
          obtain ⟨mu1, k1, k2, k3⟩ := mkArgs_turn r base _ us mu' _ vs1 h1 g1 hv2 hm
          exact ⟨mu1, k1, g2.trans k2, k3⟩
        · cases hm
    · exact mkArgs_turn r base vs us mu H vs1 h1 hR hv hm
    · cases hm
end
end Go.Vc
/- Calls: the operations. -/
set_option linter.unusedVariables false
set_option linter.unusedSimpArgs false
namespace Go.Vc

def fnIs (f : FuncId) : Callee → Bool
  | .value (.const (.func (.func g) first caps)) => Nat.beq g f && first.isEmpty && caps.isEmpty
  | .value (.func g) => Nat.beq g f
  | _ => false
/-- The check of one operation. -/
def oOK (P : Program) (nt : Nat) (o : Oper) : AOp → Bool
  | .callP d f args _ _ _ => dOKo nt o.dst d && plainFn P f && (match o.op with | .call c => fnIs f c.callee && arsOK c.args.toList args | _ => false)
  | .callS d x args _ fs => dOKo nt o.dst d && fs.all (plainFn P) && (match o.op with | .call c => (match c.callee with | .value X => arOK X x | _ => false) && arsOK c.args.toList args | _ => false)
  | op => mOK P nt o op

section
variable {P : Program} {w : World} {S : SetS} {mu : Mu} {H : Heap} {env : Env} {a : Act} {nt : Nat} {K : Env → Heap → Prop}

theorem args_rel (hE : RelE w S mu H env a) : ∀ {Xs : List Operand} {xs : List Ar}, arsOK Xs xs = true → RelVs w S mu H (evs xs env) (Xs.map a.eval)
  | [], [], _ => by simp [evs, RelVs]
  | [], _ :: _, h => by simp [arsOK] at h
  | _ :: _, [], h => by simp [arsOK] at h
  | X :: Xs, x :: xs, h => by
    simp [arsOK] at h
    simp only [evs, List.map_cons, RelVs]
    exact ⟨_, _, rfl, arOK_rel hE h.1, args_rel hE h.2⟩

theorem dOKo_put (h : Rel nt w S mu H env a) {x : Option Tmp} {d : Option Nat} (hd : dOKo nt x d = true) {av : AV} {v : Value} (hr : RelV w S mu H av v) : Rel nt w S mu H (putO env d av) (a.put x v) := by
  cases x with
  | none => cases d <;> simp [dOKo] at hd; exact h
  | some t =>
    cases d with
    | none => simp [dOKo] at hd
    | some d =>
      simp [dOKo] at hd
      obtain ⟨rfl, hd⟩ := hd
      exact h.put hd hr

theorem plainFn_spec {f : FuncId} (h : plainFn P f = true) : ∃ fn, P.funcs[f]? = some fn ∧ (fn.name == "runtime.NumGoroutine") = false ∧ fn.body.isSome = true := by
  unfold plainFn at h
  split at h
  · rename_i fn hf
    simp at h
    exact ⟨fn, hf, by simpa using h.1, by simpa using h.2⟩
  · cases h

theorem run_callFunc {f : FuncId} (h : plainFn P f = true) (args : Array Value) : (callFunc f args).run P w = .ok (.enter f args) w := by
  obtain ⟨fn, h1, h2, h3⟩ := plainFn_spec h
  have h2' : ¬ fn.name = "runtime.NumGoroutine" := by simpa using h2
  have h4 : ¬ fn.body = none := by cases hb : fn.body <;> simp [hb] at h3 ⊢
  simp [callFunc, h1, h2', h4]

theorem exec_call {o : Oper} {c : Call} {f : FuncId} (ho : o.op = .call c) (hc : fnIs f c.callee = true) (hp : plainFn P f = true) : (execOp a.eval o).run P w = .ok (.enter f (c.args.map a.eval)) w := by
  obtain ⟨callee, args, ats⟩ := c
  simp only at hc ⊢
  unfold fnIs at hc
  split at hc
  · rename_i g first caps
    simp only [Bool.and_eq_true] at hc
    obtain ⟨⟨h1, h2⟩, h3⟩ := hc
    have := Nat.eq_of_beq_eq_true h1
    subst this
    have h2' : first = #[] := by simpa using h2
    have h3' : caps = #[] := by simpa using h3
    subst h2'; subst h3'
    simp [execOp, ho, resolve, Act.eval, Deferred.ofValue, invoke, run_callFunc hp]
  · rename_i g
    have := Nat.eq_of_beq_eq_true hc
    subst this
    simp [execOp, ho, resolve, Act.eval, Deferred.ofValue, invoke, run_callFunc hp]
  · cases hc

theorem op_callP (hR : Rel nt w S mu H env a) {o : Oper} {d : Option Nat} {f : FuncId} {args : List Ar} {off cnt : Nat} {fz : Bool} {orc : Orc} {base : Nat} (hm : oOK P nt o (.callP d f args off cnt fz) = true) (hf : POK P orc f)
    (hK : awpOp orc base (.callP d f args off cnt fz) env H K) (Q : Exit → Act → World → Prop) : o.wp P a w (OpPost nt w S mu H K) Q := by
  simp only [oOK, Bool.and_eq_true] at hm
  obtain ⟨⟨hd, hp⟩, hm⟩ := hm
  split at hm
  · rename_i c ho
    simp only [Bool.and_eq_true] at hm
    obtain ⟨hc, ha⟩ := hm
    have hargs := args_rel hR.env ha
    simp only [awpOp, nrms_eq, fL_eq] at hK
    cases hdat : datAs H (evs args env) with
    | false => simp [hdat] at hK
    | true =>
      simp only [hdat, cond_true] at hK
      have hrows : ∀ id ∈ ridss (evs args env), ∀ e xs fz b, H[id]? = some (.fix e xs fz) → mu id = some b → ∀ o, o < xs.length * e.size → rowS S mu H (ridss (evs args env)) b o :=
        fun id hid e xs fz b h1 h2 o ho => .inr ⟨id, e, xs, fz, hid, h1, h2, ho⟩
      have hvs := expoVs_rel hR.heap (rowS S mu H (ridss (evs args env))) (fun b o hs => .inl hs) (evs args env) _ hrows hdat hargs
      have hcall := hf (drpF (orc.fu f) (expos H (evs args env))) (c.args.map a.eval) w _ (drpVs_rel _ _ _ (by simpa using hvs)) (rowS_there hR.heap _)
      have fin : ∀ r n, ((fz || (ridss (evs args env)).isEmpty || (scal r && n.isEmpty)) && Nat.ble n.length cnt && resvs H (base + off) n.length) = true →
          K (putO env d (renA 0 (base + off) r)) (lay (bif fz then frz H (ridss (evs args env)) else H) (base + off) (renH 0 (base + off) n)) →
          Calls P f (c.args.map a.eval) w (PPost w (rowS S mu H (ridss (evs args env))) r n) → o.wp P a w (OpPost nt w S mu H K) Q := by
        intro r n hg hK hcall
        simp only [Bool.and_eq_true] at hg
        obtain ⟨⟨hg1, hg2⟩, hg3⟩ := hg
        have hcnt : n.length ≤ cnt := by simpa using hg2
        have hrv := resvs_get _ _ _ hg3
        unfold Oper.wp
        rw [exec_call ho hc hp]
        refine Calls.mono hcall (fun out w' hout => ?_)
        obtain ⟨v, S', mu', rfl, hv, hH, hE⟩ := hout
        show OpPost nt w S mu H K (a.put o.dst v) w'
        by_cases hfz : (fz || (ridss (evs args env)).isEmpty) = true
        · -- rows are frozen
          obtain ⟨F1, F2⟩ := frz_rel hR (ridss (evs args env))
          have hsame : (bif fz then frz H (ridss (evs args env)) else H) = frz H (ridss (evs args env)) := by
            cases fz with
            | true => rfl
            | false =>
              simp at hfz
              rw [hfz]; rfl
          rw [hsame] at hK
          have hrv' : ∀ j, base + off ≤ j → j < base + off + n.length → (frz H (ridss (evs args env)))[j]? = some .resv := fun j h1 h2 => by
            rw [frz_get, hrv j h1 h2]
            split <;> rfl
          obtain ⟨mu'', g1, g2, g3⟩ := call_turn F1 hrv' hv hH hE
          exact ⟨_, _, S', mu'', dOKo_put g1 hd g3, F2.trans g2, hK⟩
        · -- nothing is shown
          have hfz' : fz = false := by cases fz <;> simp at hfz ⊢
          subst hfz'
          have h0 : (ridss (evs args env)).isEmpty = false := by
            cases hh : (ridss (evs args env)).isEmpty with
            | true => rw [hh] at hfz; exact absurd rfl hfz
            | false => rfl
          rw [h0] at hg1
          have hsc : scal r = true ∧ n = [] := by simpa using hg1
          obtain ⟨hs1, hs2⟩ := hsc
          subst hs2
          obtain ⟨g1, g2⟩ := call_still hR hE
          have : lay (bif false then frz H (ridss (evs args env)) else H) (base + off) (renH 0 (base + off) []) = H := rfl
          rw [this] at hK
          exact ⟨_, _, S, mu, dOKo_put g1 hd (scal_rel (base + off) r v hs1 hv), g2, hK⟩
      have hK := (prK_iff _ _).1 hK
      cases hp : (orc.p f (drpF (orc.fu f) (expos H (evs args env)))).res with
      | ok r n =>
        simp only [hp] at hK hcall
        cases hg : ((fz || (ridss (evs args env)).isEmpty || (scal r && n.isEmpty)) && Nat.ble n.length cnt && resvs H (base + off) n.length) with
        | true => rw [hg] at hK; exact fin r n hg hK hcall
        | false => rw [hg] at hK; exact hK.elim
      | iff c' r n =>
        simp only [hp] at hK hcall
        cases hg : ((fz || (ridss (evs args env)).isEmpty || (scal r && n.isEmpty)) && Nat.ble n.length cnt && resvs H (base + off) n.length) with
        | true => rw [hg] at hK; exact fin r n hg hK.2 (hcall hK.1)
        | false => rw [hg] at hK; exact hK.elim
      | bad => simp only [hp] at hK
      | br _ _ _ => simp only [hp] at hK
  · cases hm

theorem RelVs_append : ∀ {vs vs' : List AV} {us us' : List Value}, RelVs w S mu H vs us → RelVs w S mu H vs' us' → RelVs w S mu H (vs ++ vs') (us ++ us')
  | [], _, us, _, h1, h2 => by simp only [RelVs] at h1; subst h1; simpa using h2
  | v :: vs, _, us, _, h1, h2 => by
    simp only [RelVs] at h1
    obtain ⟨u, us1, rfl, g1, g2⟩ := h1
    simp only [List.cons_append, RelVs]
    exact ⟨u, _, rfl, g1, RelVs_append g2 h2⟩
theorem RelC_vs : ∀ {vs : List AV} {us : List Value}, RelC w S mu H vs us → oneAs vs = true → RelVs w S mu H vs us
  | [], us, h, _ => by simpa only [RelC, RelVs] using h
  | v :: vs, us, h, ho => by
    simp only [RelC, RelVs] at h ⊢
    simp [oneAs] at ho
    obtain ⟨u, us1, rfl, g1, g2⟩ := h
    refine ⟨u, us1, rfl, ?_, RelC_vs g2 ho.2⟩
    cases v <;> simp [oneA] at ho <;> simpa only [RelV] using g1

/-- A call that is handed the blocks that its arguments hold on to. -/
theorem loc_sound {orc : Orc} {f : FuncId} (hf : SOK P orc f) (hR : Rel nt w S mu H env a) {vs : List AV} {us : Array Value} (hvs : RelVs w S mu H vs us.toList) {rho : List Nat} {k : AV → Heap → Prop} (hK : locK orc f vs H rho k) :
    Calls P f us w (fun out w' => ∃ v S' mu' r H', out = .returned v ∧ k r H' ∧ Rel nt w' S' mu' H' env a ∧ Ev w S mu H w' S' mu' H' ∧ RelV w' S' mu' H' r v) := by
  unfold locK at hK
  cases hg : rhoOK vs H rho with
  | false => rw [hg] at hK; exact hK.elim
  | true =>
    rw [hg] at hK
    have hK := (srK_iff _ _).1 hK
    simp only [rhoOK, Bool.and_eq_true] at hg
    obtain ⟨⟨⟨g1, g2⟩, g3⟩, g4⟩ := hg
    have hH := pul_heap hR.heap g1 g3
    have hv : RelVs w S (mulOf mu rho) (pulBs rho (blks H rho)) (drpOs (pulAs rho vs)) us.toList := drpOVs_rel _ _ (pulVs_rel (pul_hm rho) vs _ (allIn_spec g2) hvs)
    have hcall := hf _ us w S _ _ hv hH
    have fin : ∀ r n, Nat.beq n.length rho.length = true → k (gmA (fun i => rho.getD i 0) r) (setAll H (pushW (fun i => rho.getD i 0) rho n)) → Calls P f us w (SPost w S (mulOf mu rho) (pulBs rho (blks H rho)) r n) →
        Calls P f us w (fun out w' => ∃ v S' mu' r H', out = .returned v ∧ k r H' ∧ Rel nt w' S' mu' H' env a ∧ Ev w S mu H w' S' mu' H' ∧ RelV w' S' mu' H' r v) := by
      intro r n hl hk hc
      refine Calls.mono hc (fun out w' hout => ?_)
      obtain ⟨v, S', mu', rfl, q1, q2, q3⟩ := hout
      obtain ⟨mu'', k1, k2, k3⟩ := loc_turn hR g1 g4 q1 q2 q3 (Nat.eq_of_beq_eq_true hl)
      exact ⟨v, S', mu'', _, _, rfl, hk, k1, k2, k3⟩
    cases hs : (orc.s f (drpOs (pulAs rho vs)) (pulBs rho (blks H rho))).res with
    | ok r n =>
      simp only [hs] at hK hcall
      cases hl : Nat.beq n.length rho.length with
      | false => rw [hl] at hK; exact hK.elim
      | true => rw [hl] at hK; exact fin r n hl hK hcall
    | iff c' r n =>
      simp only [hs] at hK hcall
      cases hl : Nat.beq n.length rho.length with
      | false => rw [hl] at hK; exact hK.elim
      | true => rw [hl] at hK; exact fin r n hl hK.2 (hcall hK.1)
    | bad => simp only [hs] at hK
    | br _ _ _ => simp only [hs] at hK

theorem op_callS (hR : Rel nt w S mu H env a) {o : Oper} {d : Option Nat} {x : Ar} {args : List Ar} {mks : List (Nat × Nat × Ty)} {fs : List FuncId} {orc : Orc} {base : Nat} (hm : oOK P nt o (.callS d x args mks fs) = true) (hf : ∀ f ∈ fs, SOK P orc f)
    (hK : awpOp orc base (.callS d x args mks fs) env H K) (Q : Exit → Act → World → Prop) : o.wp P a w (OpPost nt w S mu H K) Q := by
  simp only [oOK, Bool.and_eq_true] at hm
  obtain ⟨⟨hd, hpl⟩, hm⟩ := hm
  split at hm
  · rename_i c ho
    simp only [Bool.and_eq_true] at hm
    obtain ⟨hc, ha⟩ := hm
    have hargs := args_rel hR.env ha
    simp only [awpOp] at hK
    cases hv : x.ev env <;> simp only [hv] at hK
    rename_i f caps
    cases hg : (oneAs caps && fs.any (Nat.beq f)) with
    | false => rw [hg] at hK; exact hK.elim
    | true =>
    rw [hg] at hK
    simp only [cond_true] at hK
    simp only [Bool.and_eq_true, List.any_eq_true] at hg
    obtain ⟨hone, g, hg1, hg2⟩ := hg
    have := Nat.eq_of_beq_eq_true hg2
    subst this
    have hp : plainFn P f = true := (List.all_eq_true.1 hpl) f hg1
    have hf := hf f hg1
    split at hc
    · rename_i X hX
      have r1 := arOK_rel hR.env hc
      rw [hv] at r1
      simp only [RelV, RelA] at r1
      obtain ⟨vs, e1, hcaps⟩ := r1
      injection e1 with e1
      have hexec : (execOp a.eval o).run P w = .ok (.enter f (c.args.map a.eval ++ vs)) w := by
        obtain ⟨callee, cargs, ats⟩ := c
        simp only at hX
        subst hX
        simp [execOp, ho, resolve, e1, Deferred.ofValue, invoke, run_callFunc hp]
      split at hK
      · rename_i as h1 hmk
        obtain ⟨mu1, R1, E1, hv1⟩ := mkArgs_turn mks base _ _ mu H as h1 hR hargs hmk
        have hcaps1 := RelC.mono E1.turn _ _ hcaps
        have hall : RelVs w S mu1 h1 (as ++ caps) (c.args.map a.eval ++ vs).toList := by
          rw [Array.toList_append, Array.toList_map]
          exact RelVs_append hv1 (RelC_vs hcaps1 hone)
        rw [nrms_eq, nrmH_eq, fL_eq] at hK
        have hcall := loc_sound hf R1 hall hK
        unfold Oper.wp
        rw [hexec]
        refine Calls.mono hcall (fun out w' hout => ?_)
        obtain ⟨v, S', mu', r, H', rfl, hk, k1, k2, k3⟩ := hout
        exact ⟨_, _, S', mu', dOKo_put k1 hd k3, E1.trans k2, hk⟩
      · exact hK.elim
    · cases hc
  · cases hm
end
end Go.Vc
