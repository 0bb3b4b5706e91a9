/- Operations whose order is open: what each comes to. -/
import Derived.Test.YtgcakbnkeiajeaaVcReg
set_option linter.unusedVariables false
set_option linter.unusedSimpArgs false
namespace Go.Vc

def oars : Option Ar → List Ar
  | none => [] | some x => [x]
def VOp.ars : VOp → List Ar
  | .move x => [x]
  | .pick c a b => [c, a, b]
  | .add x y | .sub x y | .mul x y | .quo x y | .rem x y | .bit _ x y | .shl x y | .shr x y | .cmp _ x y | .eqT _ _ x y | .min x y | .max x y => [x, y]
  | .not x | .neg x | .conv _ x | .convS _ x | .ext x _ | .len _ x | .fadr _ _ x | .loadC _ x | .nilck x | .sarr _ _ x | .fieldv _ _ x => [x]
  | .iadr _ _ x i | .sidx x i | .aidx _ _ x i => [x, i]
  | .slice _ x lo hi mx => x :: (oars lo ++ (oars hi ++ oars mx))
  | .sliceS x lo hi => x :: (oars lo ++ oars hi)
  | .slc _ x hi => [x, hi]
  | .sliceA _ _ x lo hi => x :: (oars lo ++ oars hi)
  | .build _ ps => ps.map (·.2)
  | .mkfn _ cs => cs
def AOp.ars : AOp → List Ar
  | .v _ o => o.ars
  | .load _ _ x => [x]
  | .alloc .. => []
  | .box _ _ _ x => [x]
  | .lit _ _ _ _ ps _ => ps.map (·.2)
  | .make _ _ _ _ l => [l]
  | .app _ _ _ _ s x _ => [s, x]
  | .appz _ _ _ _ s x => [s, x]
  | .store _ x y => [x, y]
  | .mk _ _ _ x => [x]
  | .close _ x => [x]
  | .trim _ x y => [x, y]
  | .acut _ _ _ x lo hi => x :: (oars lo ++ oars hi)
  | .callP _ _ args _ _ _ => args
  | .callS _ x args _ _ => x :: args
  | .eqnil _ _ x => [x]
  | .cap _ x => [x]
  | .boxc _ _ x => [x]
  | .stop _ => []

theorem evs_congr {e e' : Env} : ∀ (xs : List Ar), (∀ x ∈ xs, x.ev e = x.ev e') → evs xs e = evs xs e'
  | [], _ => rfl
  | x :: xs, h => by simp only [evs]; rw [h x (by simp), evs_congr xs fun y hy => h y (by simp [hy])]
theorem evps_congr {e e' : Env} : ∀ (ps : List (Nat × Ar)), (∀ x ∈ ps.map (·.2), x.ev e = x.ev e') → evps ps e = evps ps e'
  | [], _ => rfl
  | p :: ps, h => by
    obtain ⟨i, x⟩ := p
    simp only [evps]
    rw [h x (by simp), evps_congr ps fun y hy => h y (by simp at hy ⊢; exact .inr hy)]
theorem optI_congr {e e' : Env} (x : Option Ar) (d : Int) (h : ∀ y ∈ oars x, y.ev e = y.ev e') : optI x e d = optI x e' d := by
  cases x with
  | none => rfl
  | some x => simp only [optI]; rw [h x (by simp [oars])]

theorem vop_congr {e e' : Env} (vo : VOp) (h : ∀ x ∈ vo.ars, x.ev e = x.ev e') : vop vo e = vop vo e' := by
  cases vo with
  | move x => simp only [vop, h x (by simp [VOp.ars])]
  | pick c a b => simp only [vop, h c (by simp [VOp.ars]), h a (by simp [VOp.ars]), h b (by simp [VOp.ars])]
  | add x y => simp only [vop, h x (by simp [VOp.ars]), h y (by simp [VOp.ars])]
  | sub x y => simp only [vop, h x (by simp [VOp.ars]), h y (by simp [VOp.ars])]
  | mul x y => simp only [vop, h x (by simp [VOp.ars]), h y (by simp [VOp.ars])]
  | quo x y => simp only [vop, h x (by simp [VOp.ars]), h y (by simp [VOp.ars])]
  | rem x y => simp only [vop, h x (by simp [VOp.ars]), h y (by simp [VOp.ars])]
  | bit o x y => simp only [vop, h x (by simp [VOp.ars]), h y (by simp [VOp.ars])]
  | shl x y => simp only [vop, h x (by simp [VOp.ars]), h y (by simp [VOp.ars])]
  | shr x y => simp only [vop, h x (by simp [VOp.ars]), h y (by simp [VOp.ars])]
  | cmp o x y => simp only [vop, h x (by simp [VOp.ars]), h y (by simp [VOp.ars])]
  | eqT t n x y => simp only [vop, h x (by simp [VOp.ars]), h y (by simp [VOp.ars])]
  | min x y => simp only [vop, h x (by simp [VOp.ars]), h y (by simp [VOp.ars])]
  | max x y => simp only [vop, h x (by simp [VOp.ars]), h y (by simp [VOp.ars])]
  | not x => simp only [vop, h x (by simp [VOp.ars])]
  | neg x => simp only [vop, h x (by simp [VOp.ars])]
  | conv k x => simp only [vop, h x (by simp [VOp.ars])]
  | convS b x => cases b <;> simp only [vop, h x (by simp [VOp.ars])]
  | ext x i => simp only [vop, h x (by simp [VOp.ars])]
  | len b x => cases b <;> simp only [vop, h x (by simp [VOp.ars])]
  | fadr t i x => simp only [vop, h x (by simp [VOp.ars])]
  | iadr n t x i => cases n <;> simp only [vop, h x (by simp [VOp.ars]), h i (by simp [VOp.ars])]
  | slice t x lo hi mx =>
    have h1 := h x (by simp [VOp.ars])
    have h2 : ∀ d, optI lo e d = optI lo e' d := fun d => optI_congr lo d fun y hy => h y (by simp [VOp.ars, hy])
    have h3 : ∀ d, optI hi e d = optI hi e' d := fun d => optI_congr hi d fun y hy => h y (by simp [VOp.ars, hy])
    cases mx with
    | none =>
      simp only [vop, h1]
      cases x.ev e' with
      | sl u xs tok => simp only [h2, h3]; cases optI lo e' 0 <;> cases optI hi e' xs.length <;> rfl
      | rsl id u off len => simp only [h2, h3]
      | _ => rfl
    | some m =>
      have h4 := h m (by simp [VOp.ars, oars])
      simp only [vop, h1]
      cases x.ev e' with
      | sl u xs tok => simp only [h2, h3]; cases optI lo e' 0 <;> cases optI hi e' xs.length <;> simp only [h4]
      | rsl id u off len => simp only [h2, h3]
      | _ => rfl
  | slc t x hi => simp only [vop, h x (by simp [VOp.ars]), h hi (by simp [VOp.ars])]
  | sliceS x lo hi =>
    have h1 := h x (by simp [VOp.ars])
    have h2 : ∀ d, optI lo e d = optI lo e' d := fun d => optI_congr lo d fun y hy => h y (by simp [VOp.ars, hy])
    have h3 : ∀ d, optI hi e d = optI hi e' d := fun d => optI_congr hi d fun y hy => h y (by simp [VOp.ars, hy])
    simp only [vop, h1, h2, h3]
  | sliceA n t x lo hi =>
    have h1 := h x (by simp [VOp.ars])
    have h2 : ∀ d, optI lo e d = optI lo e' d := fun d => optI_congr lo d fun y hy => h y (by simp [VOp.ars, hy])
    have h3 : ∀ d, optI hi e d = optI hi e' d := fun d => optI_congr hi d fun y hy => h y (by simp [VOp.ars, hy])
    simp only [vop, h1, h2, h3]
  | loadC t x => simp only [vop, h x (by simp [VOp.ars])]
  | build t ps => simp only [vop, evps_congr ps (by simpa only [VOp.ars] using h)]
  | mkfn f cs => simp only [vop, evs_congr cs (by simpa only [VOp.ars] using h)]
  | nilck x => simp only [vop, h x (by simp [VOp.ars])]
  | sarr n t x => simp only [vop, h x (by simp [VOp.ars])]
  | sidx x i => simp only [vop, h x (by simp [VOp.ars]), h i (by simp [VOp.ars])]
  | aidx n t x i => simp only [vop, h x (by simp [VOp.ars]), h i (by simp [VOp.ars])]
  | fieldv t i x => simp only [vop, h x (by simp [VOp.ars])]

theorem oout_congr {orc : Orc} {h : Heap} {base : Nat} {e e' : Env} (o : AOp) (hx : ∀ x ∈ o.ars, x.ev e = x.ev e') : oout orc base o e h = oout orc base o e' h := by
  cases o with
  | v d o => simp only [oout, vop_congr o (by simpa only [AOp.ars] using hx)]
  | load d t x => simp only [oout, hx x (by simp [AOp.ars])]
  | alloc d off t => rfl
  | box d off t x => simp only [oout, hx x (by simp [AOp.ars])]
  | lit d off e n ps fx => simp only [oout, evps_congr ps (by simpa only [AOp.ars] using hx)]
  | make d off e bs l => simp only [oout, hx l (by simp [AOp.ars])]
  | app d off e bs s x fx => simp only [oout, hx s (by simp [AOp.ars]), hx x (by simp [AOp.ars])]
  | appz d off e bs s x => rfl
  | store t x y => simp only [oout, hx x (by simp [AOp.ars]), hx y (by simp [AOp.ars])]
  | mk d off t x => simp only [oout, hx x (by simp [AOp.ars])]
  | close d x => simp only [oout, hx x (by simp [AOp.ars])]
  | trim d x y => rfl
  | acut d n t x lo hi =>
    have h2 : ∀ d, optI lo e d = optI lo e' d := fun d => optI_congr lo d fun y hy => hx y (by simp [AOp.ars, hy])
    have h3 : ∀ d, optI hi e d = optI hi e' d := fun d => optI_congr hi d fun y hy => hx y (by simp [AOp.ars, hy])
    simp only [oout, hx x (by simp [AOp.ars]), h2, h3]
  | callP d f args off cnt fz => simp only [oout, evs_congr args (by simpa only [AOp.ars] using hx)]
  | callS d x args mks fs => simp only [oout, hx x (by simp [AOp.ars]), evs_congr args fun y hy => hx y (by simp [AOp.ars, hy])]
  | eqnil d n x => rfl
  | cap d x => simp only [oout, hx x (by simp [AOp.ars])]
  | boxc d t x => simp only [oout, hx x (by simp [AOp.ars])]
  | stop d => rfl

theorem layW_lay : ∀ (n : Heap) (H : Heap) (i : Nat), lay H i n = setAll H (layW i n)
  | [], _, _ => rfl
  | b :: r, H, i => by simp only [lay, layW, setAll]; exact layW_lay r _ _
theorem setAll_append : ∀ (a b : List (Nat × Blk)) (H : Heap), setAll H (a ++ b) = setAll (setAll H a) b
  | [], _, _ => rfl
  | (i, x) :: r, b, H => by simp only [List.cons_append, setAll]; exact setAll_append r b _
theorem layW_mem : ∀ (n : Heap) (i j : Nat), i ≤ j → j < i + n.length → j ∈ (layW i n).map (·.1)
  | [], i, j, h1, h2 => by simp at h2; omega
  | b :: r, i, j, h1, h2 => by
    simp only [layW, List.map_cons, List.mem_cons]
    by_cases h : j = i
    · exact .inl h
    · exact .inr (layW_mem r (i + 1) j (by omega) (by simp at h2; omega))
theorem agree_getD {H h : Heap} {id : Nat} (e : H[id]? = h[id]?) : H.getD id .dead = h.getD id .dead := by
  rw [List.getD_eq_getElem?_getD, List.getD_eq_getElem?_getD, e]
theorem frzW_frz : ∀ (ids : List Nat) (H H1 : Heap), H1.length = H.length → (∀ id, id ∈ ids → H1[id]? = H[id]? ∨ ∃ e xs, H1[id]? = some (.fix e xs true) ∧ ∃ fz, H[id]? = some (.fix e xs fz)) → frz H1 ids = setAll H1 (frzW H ids)
  | [], H, H1, _, _ => rfl
  | id :: r, H, H1, hl, h => by
    have key : (∃ e xs fz, H[id]? = some (.fix e xs fz) ∧ ∃ fz', H1[id]? = some (.fix e xs fz')) ∨ ((∀ e xs fz, H[id]? ≠ some (.fix e xs fz)) ∧ H1[id]? = H[id]?) := by
      rcases h id (by simp) with h1 | ⟨e, xs, h1, fz, h2⟩
      · by_cases hx : ∃ e xs fz, H[id]? = some (.fix e xs fz)
        · obtain ⟨e, xs, fz, hx⟩ := hx
          exact .inl ⟨e, xs, fz, hx, fz, by rw [h1, hx]⟩
        · exact .inr ⟨fun e xs fz hh => hx ⟨e, xs, fz, hh⟩, h1⟩
      · exact .inl ⟨e, xs, fz, h2, true, h1⟩
    rcases key with ⟨e, xs, fz, h1, fz', h2⟩ | ⟨h1, h2⟩
    · have e1 : H.getD id .dead = .fix e xs fz := by rw [List.getD_eq_getElem?_getD, h1]; rfl
      have e2 : H1.getD id .dead = .fix e xs fz' := by rw [List.getD_eq_getElem?_getD, h2]; rfl
      simp only [frz, frzW, e1, e2, setAll]
      refine frzW_frz r H _ (by simpa using hl) fun id' hid' => ?_
      by_cases hi : id = id'
      · subst hi
        right
        have hlt : id < H1.length := by
          rcases Nat.lt_or_ge id H1.length with h | h
          · exact h
          · rw [List.getElem?_eq_none h] at h2; cases h2
        exact ⟨e, xs, by rw [List.getElem?_set]; simp [hlt], fz, h1⟩
      · rw [List.getElem?_set, if_neg hi]
        exact h id' (by simp [hid'])
    · have e2 := agree_getD h2
      have : frz H1 (id :: r) = frz H1 r := by
        simp only [frz, e2]
        split
        · rename_i e xs fz hh
          exfalso
          cases hx : H[id]? with
          | none => rw [List.getD_eq_getElem?_getD, hx] at hh; cases hh
          | some b => rw [List.getD_eq_getElem?_getD, hx] at hh; simp at hh; rw [hh] at hx; exact h1 _ _ _ hx
        · rfl
      have t2 : frzW H (id :: r) = frzW H r := by
        simp only [frzW]
        split
        · rename_i e xs fz hh
          exfalso
          cases hx : H[id]? with
          | none => rw [List.getD_eq_getElem?_getD, hx] at hh; cases hh
          | some b => rw [List.getD_eq_getElem?_getD, hx] at hh; simp at hh; rw [hh] at hx; exact h1 _ _ _ hx
        · rfl
      rw [this, t2]
      exact frzW_frz r H H1 hl fun id' hid' => h id' (by simp [hid'])

mutual
theorem dat_agree {H h : Heap} : ∀ (v : AV), (∀ id ∈ rids v, H[id]? = h[id]?) → datA H v = datA h v ∧ expo H v = expo h v
  | .undef, _ => ⟨rfl, rfl⟩
  | .int .., _ => ⟨rfl, rfl⟩
  | .bool .., _ => ⟨rfl, rfl⟩
  | .str .., _ => ⟨rfl, rfl⟩
  | .sl e xs t, _ => by cases t <;> exact ⟨rfl, rfl⟩
  | .rsl id e o n, hh => by
    have := agree_getD (hh id (by simp [rids]))
    simp only [datA, expo, this]
    exact ⟨trivial, trivial⟩
  | .st vs, hh => by
    obtain ⟨h1, h2⟩ := dats_agree vs (by simpa [rids] using hh)
    simp only [datA, expo, h1, h2]
    exact ⟨trivial, trivial⟩
  | .arr .., _ => ⟨rfl, rfl⟩
  | .ptr .., _ => ⟨rfl, rfl⟩
  | .cptr .., _ => ⟨rfl, rfl⟩
  | .nilp, _ => ⟨rfl, rfl⟩
  | .fn f [], _ => ⟨rfl, rfl⟩
  | .fn f (_ :: _), _ => ⟨rfl, rfl⟩
  | .nilfn, _ => ⟨rfl, rfl⟩
  | .tup _, _ => ⟨rfl, rfl⟩
theorem dats_agree {H h : Heap} : ∀ (vs : List AV), (∀ id ∈ ridss vs, H[id]? = h[id]?) → datAs H vs = datAs h vs ∧ expos H vs = expos h vs
  | [], _ => ⟨rfl, rfl⟩
  | v :: vs, hh => by
    obtain ⟨h1, h2⟩ := dat_agree v fun id hid => hh id (by simp [ridss, hid])
    obtain ⟨h3, h4⟩ := dats_agree vs fun id hid => hh id (by simp [ridss, hid])
    simp only [datAs, expos, h1, h2, h3, h4]
    exact ⟨trivial, trivial⟩
end
theorem resvs_agree {H h : Heap} : ∀ (k i : Nat), (∀ j, i ≤ j → j < i + k → H[j]? = h[j]?) → resvs H i k = resvs h i k
  | 0, _, _ => rfl
  | k + 1, i, hh => by
    simp only [resvs, agree_getD (hh i (Nat.le_refl _) (by omega))]
    rw [resvs_agree k (i + 1) fun j h1 h2 => hh j (by omega) (by omega)]
theorem src_agree {H h : Heap} (e : Ty) (v : AV) (hh : ∀ id ∈ srcIds v, H[id]? = h[id]?) : srcOf e H v = srcOf e h v := by
  cases v with
  | rsl id u o n => simp only [srcOf, agree_getD (hh id (by simp [srcIds]))]
  | _ => rfl

theorem ded_sub : ∀ (l acc : List Nat) (x : Nat), x ∈ acc → x ∈ ded acc l
  | [], acc, x, h => h
  | y :: l, acc, x, h => by
    simp only [ded]
    cases memN y acc
    · exact ded_sub l _ x (by simp [h])
    · exact ded_sub l _ x h
theorem one_inj {c c' : Prop} {v v' : AV} {ws ws' : List (Nat × Blk)} {rs rs' : List Nat} (h : OT.one c v ws rs = OT.one c' v' ws' rs') : c = c' ∧ v = v' ∧ ws = ws' ∧ rs = rs' := by
  injection h with h1 h2 h3 h4
  exact ⟨h1, h2, h3, h4⟩
theorem prOT_res : ∀ (q : PR) (k : Prop → AV → Heap → OT), (prOT q k).res = match q.res with
    | .ok r n => (k True r n).res
    | .iff c r n => (k c r n).res
    | _ => .none
  | .ok _ _, _ => rfl
  | .iff _ _ _, _ => rfl
  | .bad, _ => rfl
  | .br b x y, k => by
    simp only [prOT, OT.res, PR.res]
    cases b
    · exact prOT_res y k
    · exact prOT_res x k
theorem srOT_res : ∀ (q : SR) (k : Prop → AV → Heap → OT), (srOT q k).res = match q.res with
    | .ok r n => (k True r n).res
    | .iff c r n => (k c r n).res
    | _ => .none
  | .ok _ _, _ => rfl
  | .iff _ _ _, _ => rfl
  | .bad, _ => rfl
  | .br b x y, k => by
    simp only [srOT, OT.res, SR.res]
    cases b
    · exact srOT_res y k
    · exact srOT_res x k

/-- Along the text or not: an operation comes to what 'oout' says. -/
theorem oout_op {orc : Orc} {base : Nat} {e : Env} {o : AOp} {h : Heap} {c : Prop} {v : AV} {ws : List (Nat × Blk)} {rs : List Nat} (ho : (oout orc base o e h).res = .one c v ws rs) :
    ∀ (H : Heap) (K : Env → Heap → Prop), c → H.length = h.length → (∀ id, id ∈ ws.map (·.1) ∨ id ∈ rs → H[id]? = h[id]?) → K (putO e o.dst v) (setAll H ws) → awpOp orc base o e H K := by
  intro H K hc hlen hag hK
  have dead : OT.res .none = .one c v ws rs → False := fun h => by cases h
  cases o with
  | v d vo =>
    simp only [oout] at ho
    cases hv : vop vo e with
    | ok u =>
      rw [hv] at ho
      obtain ⟨rfl, rfl, rfl, rfl⟩ := one_inj ho
      simp only [awpOp, hv]
      exact hK
    | iff c' u =>
      rw [hv] at ho
      obtain ⟨rfl, rfl, rfl, rfl⟩ := one_inj ho
      simp only [awpOp, hv]
      exact ⟨hc, hK⟩
    | bad => rw [hv] at ho; cases ho
  | load d t x =>
    simp only [oout] at ho
    cases hv : x.ev e <;> simp only [hv] at ho <;> first | (cases ho; done) | skip
    · rename_i id p u
      cases hs : Ty.same u t with
      | false => rw [hs] at ho; cases ho
      | true =>
        rw [hs] at ho
        simp only [cond_true] at ho
        cases hb : h.getD id .dead with
        | var T u' fz =>
          simp only [hb] at ho
          obtain ⟨rfl, rfl, rfl, rfl⟩ := one_inj ho
          have hg := (agree_getD (hag id (.inr (by simp)))).trans hb
          simp only [awpOp, hv, hs, cond_true, hg]
          exact hK
        | fix f xs fz =>
          simp only [hb] at ho
          split at ho
          · rename_i n q
            obtain ⟨rfl, rfl, rfl, rfl⟩ := one_inj ho
            have hg := (agree_getD (hag id (.inr (by simp)))).trans hb
            simp only [awpOp, hv, hs, cond_true, hg]
            exact hK
          · cases ho
        | resv => simp only [hb] at ho; cases ho
        | dead => simp only [hb] at ho; cases ho
        | ext f n => simp only [hb] at ho; cases ho
    · rename_i u d'
      cases hs : Ty.same u t with
      | false => rw [hs] at ho; cases ho
      | true =>
        rw [hs] at ho
        obtain ⟨rfl, rfl, rfl, rfl⟩ := one_inj ho
        simp only [awpOp, hv, hs, cond_true]
        exact hK
  | alloc d off t =>
    simp only [oout] at ho
    split at ho
    · rename_i hb
      obtain ⟨rfl, rfl, rfl, rfl⟩ := one_inj ho
      have hg := (agree_getD (hag (base + off) (.inl (by simp)))).trans hb
      simp only [awpOp, hg]
      exact hK
    · cases ho
  | box d off t x =>
    simp only [oout] at ho
    split at ho
    · rename_i hb
      cases hf : fitsV (x.ev e) t with
      | false => rw [hf] at ho; cases ho
      | true =>
        rw [hf] at ho
        obtain ⟨rfl, rfl, rfl, rfl⟩ := one_inj ho
        have hg := (agree_getD (hag (base + off) (.inl (by simp)))).trans hb
        simp only [awpOp, hg, hf, cond_true]
        exact hK
    · cases ho
  | lit d off el n ps fx =>
    simp only [oout] at ho
    split at ho
    · rename_i hb
      cases hf : fitPartsD el n (evps ps e) with
      | false => rw [hf] at ho; cases ho
      | true =>
        rw [hf] at ho
        simp only [cond_true] at ho
        cases fx with
        | false =>
          obtain ⟨rfl, rfl, rfl, rfl⟩ := one_inj ho
          have hg := (agree_getD (hag (base + off) (.inl (by simp)))).trans hb
          simp only [awpOp, hg, hf, cond_true, cond_false, nrmPs_eq]
          exact hK
        | true =>
          simp only [cond_true] at ho
          cases hn : Nat.beq n 0 with
          | true =>
            rw [hn] at ho
            obtain ⟨rfl, rfl, rfl, rfl⟩ := one_inj ho
            have hg := (agree_getD (hag (base + off) (.inr (by simp)))).trans hb
            simp only [awpOp, hg, hf, cond_true, hn, nrmPs_eq]
            exact hK
          | false =>
            rw [hn] at ho
            obtain ⟨rfl, rfl, rfl, rfl⟩ := one_inj ho
            have hg := (agree_getD (hag (base + off) (.inl (by simp)))).trans hb
            simp only [awpOp, hg, hf, cond_true, hn, cond_false, nrmPs_eq]
            exact hK
    · cases ho
  | make d off el bs l =>
    simp only [oout] at ho
    split at ho
    · rename_i k n hb hv
      obtain ⟨rfl, rfl, rfl, rfl⟩ := one_inj ho
      have hg := (agree_getD (hag (base + off) (.inl (by simp)))).trans hb
      simp only [awpOp, hg, hv]
      exact ⟨hc, hK⟩
    · cases ho
  | app d off el bs s x fx =>
    simp only [oout] at ho
    cases hy : srcOf el h (x.ev e) with
    | none => simp only [hy] at ho; cases ho
    | some ys =>
      cases hs : s.ev e <;> simp only [hy, hs] at ho <;> first | (cases ho; done) | skip
      rename_i u xs tk
      cases tk with
      | no => cases ho
      | own id =>
        simp only at ho
        cases hu : Ty.same u el with
        | false => rw [hu] at ho; cases ho
        | true =>
          rw [hu] at ho
          simp only [cond_true] at ho
          split at ho
          · rename_i f m hb
            cases hfx : (fx || !Ty.same f el) with
            | true => rw [hfx] at ho; cases ho
            | false =>
              rw [hfx] at ho
              simp only [cond_false] at ho
              obtain ⟨rfl, rfl, rfl, rfl⟩ := one_inj ho
              have hg := (agree_getD (hag id (.inl (by simp)))).trans hb
              have hsr := (src_agree (H := H) (h := h) el (x.ev e) fun i hi => hag i (.inr hi)).trans hy
              simp only [awpOp, hsr, hs, hu, cond_true, hg, hfx, cond_false]
              exact ⟨hc, hK⟩
          · cases ho
      | full =>
        simp only at ho
        cases hu : Ty.same u el with
        | false => rw [hu] at ho; cases ho
        | true =>
          rw [hu] at ho
          simp only [cond_true] at ho
          split at ho
          · rename_i hb
            cases fx with
            | true =>
              obtain ⟨rfl, rfl, rfl, rfl⟩ := one_inj ho
              have hg := (agree_getD (hag (base + off) (.inl (by simp)))).trans hb
              have hsr := (src_agree (H := H) (h := h) el (x.ev e) fun i hi => hag i (.inr hi)).trans hy
              simp only [awpOp, hsr, hs, hu, cond_true, hg]
              exact ⟨hc, hK⟩
            | false =>
              obtain ⟨rfl, rfl, rfl, rfl⟩ := one_inj ho
              have hg := (agree_getD (hag (base + off) (.inl (by simp)))).trans hb
              have hsr := (src_agree (H := H) (h := h) el (x.ev e) fun i hi => hag i (.inr hi)).trans hy
              simp only [awpOp, hsr, hs, hu, cond_true, hg, cond_false]
              exact ⟨hc, hK⟩
          · cases ho
  | store t x y =>
    simp only [oout] at ho
    cases hv : x.ev e <;> simp only [hv] at ho <;> first | (cases ho; done) | skip
    rename_i id p u
    cases hs : (Ty.same u t && fitsV (y.ev e) t) with
    | false => rw [hs] at ho; cases ho
    | true =>
      rw [hs] at ho
      simp only [cond_true] at ho
      cases hb : h.getD id .dead with
      | var T u' fz =>
        cases fz with
        | true => simp only [hb] at ho; cases ho
        | false =>
          simp only [hb] at ho
          cases hf : (flds p || fits (y.ev e) t) with
          | false => rw [hf] at ho; cases ho
          | true =>
            rw [hf] at ho
            obtain ⟨rfl, rfl, rfl, rfl⟩ := one_inj ho
            have hg := (agree_getD (hag id (.inl (by simp)))).trans hb
            simp only [awpOp, hv, hs, cond_true, nrm_eq, hg, hf]
            exact hK
      | fix f xs fz =>
        cases fz with
        | true => simp only [hb] at ho; cases ho
        | false =>
          simp only [hb] at ho
          split at ho
          · rename_i n q
            cases hf : fits (y.ev e) t with
            | false => rw [hf] at ho; cases ho
            | true =>
              rw [hf] at ho
              obtain ⟨rfl, rfl, rfl, rfl⟩ := one_inj ho
              have hg := (agree_getD (hag id (.inl (by simp)))).trans hb
              simp only [awpOp, hv, hs, cond_true, nrm_eq, hg, hf]
              exact hK
          · cases ho
      | resv => simp only [hb] at ho; cases ho
      | dead => simp only [hb] at ho; cases ho
      | ext f n => simp only [hb] at ho; cases ho
  | mk d off el x =>
    simp only [oout] at ho
    split at ho
    · rename_i u hv
      cases hu : Ty.same u el with
      | false => rw [hu] at ho; cases ho
      | true =>
        rw [hu] at ho
        simp only [cond_true] at ho
        split at ho
        · rename_i hb
          obtain ⟨rfl, rfl, rfl, rfl⟩ := one_inj ho
          have hg := (agree_getD (hag (base + off) (.inl (by simp)))).trans hb
          simp only [awpOp, hv, hu, cond_true, hg]
          exact hK
        · cases ho
    · rename_i u xs id hv
      obtain ⟨rfl, rfl, rfl, rfl⟩ := one_inj ho
      simp only [awpOp, hv]
      exact hK
    · cases ho
  | close d x =>
    simp only [oout] at ho
    split at ho
    · rename_i id u len hv
      split at ho
      · rename_i f xs hb
        cases hu : Ty.same u f with
        | false => rw [hu] at ho; cases ho
        | true =>
          rw [hu] at ho
          simp only [cond_true] at ho
          obtain ⟨rfl, rfl, rfl, rfl⟩ := one_inj ho
          have hg := (agree_getD (hag id (.inl (by simp)))).trans hb
          simp only [awpOp, hv, hg, hu, cond_true]
          exact ⟨hc, hK⟩
      · cases ho
    · cases ho
  | acut d n el x lo hi =>
    simp only [oout] at ho
    cases hv : x.ev e <;> simp only [hv] at ho <;> first | (cases ho; done) | skip
    rename_i id p u
    cases hu : Ty.same u (.arr n el) with
    | false => rw [hu] at ho; cases ho
    | true =>
      rw [hu] at ho
      simp only [cond_true] at ho
      split at ho
      · rename_i T v' fz hb
        split at ho
        · rename_i n' e' xs l k hp hl hk
          obtain ⟨rfl, rfl, rfl, rfl⟩ := one_inj ho
          have hg := (agree_getD (hag id (.inl (by simp)))).trans hb
          simp only [awpOp, hv, hu, cond_true, hg, hp, hl, hk]
          exact ⟨hc, hK⟩
        · cases ho
      · cases ho
  | callP d f args off cnt fz =>
    simp only [oout] at ho
    cases hd : datAs h (evs args e) with
    | false => rw [hd] at ho; cases ho
    | true =>
      rw [hd] at ho
      simp only [cond_true, prOT_res] at ho
      have key : ∀ (r : AV) (n : Heap) (c' : Prop), (OT.res (bif (fz || (ridss (evs args e)).isEmpty || (scal r && n.isEmpty)) && Nat.ble n.length cnt && resvs h (base + off) n.length
          then .one c' (renA 0 (base + off) r) ((bif fz then frzW h (ridss (evs args e)) else []) ++ layW (base + off) (renH 0 (base + off) n)) (ridss (evs args e)) else .none)) = .one c v ws rs →
          c' = c ∧ (datAs H (evs args e) = true ∧ expos H (evs args e) = expos h (evs args e)) ∧
          ((fz || (ridss (evs args e)).isEmpty || (scal r && n.isEmpty)) && Nat.ble n.length cnt && resvs H (base + off) n.length) = true ∧
          K (putO e d (renA 0 (base + off) r)) (lay (bif fz then frz H (ridss (evs args e)) else H) (base + off) (renH 0 (base + off) n)) := by
        intro r n c' hq
        cases hg : ((fz || (ridss (evs args e)).isEmpty || (scal r && n.isEmpty)) && Nat.ble n.length cnt && resvs h (base + off) n.length) with
        | false => rw [hg] at hq; cases hq
        | true =>
          rw [hg] at hq
          simp only [cond_true, OT.res] at hq
          obtain ⟨rfl, rfl, rfl, rfl⟩ := one_inj hq
          obtain ⟨d1, d2⟩ := dats_agree (H := H) (h := h) (evs args e) fun id hid => hag id (.inr hid)
          have hr := resvs_agree (H := H) (h := h) n.length (base + off) fun j h1 h2 => hag j (.inl (by
            rw [List.map_append, List.mem_append]
            exact .inr (layW_mem _ _ _ h1 (by rw [renH_length]; exact h2))))
          refine ⟨rfl, ⟨d1.trans hd, d2⟩, by rw [hr]; exact hg, ?_⟩
          have : lay (bif fz then frz H (ridss (evs args e)) else H) (base + off) (renH 0 (base + off) n) = setAll H ((bif fz then frzW h (ridss (evs args e)) else []) ++ layW (base + off) (renH 0 (base + off) n)) := by
            rw [setAll_append, layW_lay]
            cases fz with
            | false => rfl
            | true =>
              simp only [cond_true]
              rw [frzW_frz (ridss (evs args e)) h H hlen fun id hid => .inl (hag id (.inr hid))]
          rw [this]
          exact hK
      cases hp : (orc.p f (drpF (orc.fu f) (expos h (evs args e)))).res with
      | bad => simp only [hp] at ho; cases ho
      | br _ _ _ => simp only [hp] at ho; cases ho
      | ok r n =>
        simp only [hp] at ho
        obtain ⟨_, ⟨d1, d2⟩, k1, k2⟩ := key r n True ho
        simp only [awpOp, nrms_eq, fL_eq, d1, cond_true, d2, prK_iff, hp, k1]
        exact k2
      | iff c' r n =>
        simp only [hp] at ho
        obtain ⟨hcc, ⟨d1, d2⟩, k1, k2⟩ := key r n c' ho
        simp only [awpOp, nrms_eq, fL_eq, d1, cond_true, d2, prK_iff, hp, k1]
        exact ⟨by rw [hcc]; exact hc, k2⟩
  | callS d x args mks fs =>
    simp only [oout] at ho
    cases hv : x.ev e <;> simp only [hv] at ho <;> first | (cases ho; done) | skip
    rename_i f caps
    cases mks with
    | cons _ _ => cases ho
    | nil =>
    simp only at ho
    generalize hrho : rhoOf (evs args e ++ caps) h = rho at ho
    cases hg : (oneAs caps && fs.any (Nat.beq f) && rhoOK (evs args e ++ caps) h rho) with
    | false => rw [hg] at ho; cases ho
    | true =>
      rw [hg] at ho
      simp only [cond_true, srOT_res] at ho
      have hg1 : (oneAs caps && fs.any (Nat.beq f)) = true := by
        cases hx : (oneAs caps && fs.any (Nat.beq f)) with
        | true => rfl
        | false => rw [hx] at hg; simp at hg
      have hg2 : rhoOK (evs args e ++ caps) h rho = true := by
        rw [hg1] at hg
        simpa using hg
      have bl : (∀ id, id ∈ rho → H[id]? = h[id]?) → ∀ l : List Nat, (∀ x ∈ l, x ∈ rho) → blks H l = blks h l := by
        intro hag' l
        induction l with
        | nil => intro _; rfl
        | cons y l ih =>
          intro hl
          simp only [blks]
          rw [agree_getD (hag' y (hl y (by simp))), ih fun x hx => hl x (by simp [hx])]
      have key : ∀ (r : AV) (n : Heap) (c' : Prop), (OT.res (bif Nat.beq n.length rho.length then .one c' (gmA (fun i => rho.getD i 0) r) (pushW (fun i => rho.getD i 0) rho n) rho else .none)) = .one c v ws rs →
          c' = c ∧ rs = rho ∧ Nat.beq n.length rho.length = true ∧ K (putO e d (gmA (fun i => rho.getD i 0) r)) (setAll H (pushW (fun i => rho.getD i 0) rho n)) := by
        intro r n c' hq
        cases hl : Nat.beq n.length rho.length with
        | false => rw [hl] at hq; cases hq
        | true =>
          rw [hl] at hq
          simp only [cond_true, OT.res] at hq
          obtain ⟨rfl, rfl, rfl, rfl⟩ := one_inj hq
          exact ⟨rfl, rfl, rfl, hK⟩
      have fin : ∀ (r : AV) (n : Heap), rs = rho → (∀ k : AV → Heap → Prop, k (gmA (fun i => rho.getD i 0) r) (setAll H (pushW (fun i => rho.getD i 0) rho n)) → (match (orc.s f (drpOs (pulAs rho (evs args e ++ caps))) (pulBs rho (blks h rho))).res with
          | .ok r n => bif Nat.beq n.length rho.length then k (gmA (fun i => rho.getD i 0) r) (setAll H (pushW (fun i => rho.getD i 0) rho n)) else False
          | .iff c r n => bif Nat.beq n.length rho.length then Nd c (k (gmA (fun i => rho.getD i 0) r) (setAll H (pushW (fun i => rho.getD i 0) rho n))) else False
          | _ => False)) → K (putO e d (gmA (fun i => rho.getD i 0) r)) (setAll H (pushW (fun i => rho.getD i 0) rho n)) → awpOp orc base (.callS d x args [] fs) e H K := by
        intro r n hrs hres hk
        have hag' : ∀ id, id ∈ rho → H[id]? = h[id]? := fun id hid => hag id (.inr (by rw [hrs]; exact hid))
        have b0 := bl hag' rho fun x hx => hx
        have hsub : ∀ x ∈ ded [] (idsAs (evs args e ++ caps)), x ∈ rho := by
          intro y hy
          rw [← hrho]
          unfold rhoOf
          exact ded_sub _ _ _ hy
        have b1 := bl hag' (ded [] (idsAs (evs args e ++ caps))) hsub
        have hr2 : rhoOf (evs args e ++ caps) H = rho := by
          rw [← hrho]
          unfold rhoOf
          rw [b1]
        have hg3 : rhoOK (evs args e ++ caps) H rho = true := by
          unfold rhoOK
          rw [b0]
          exact hg2
        simp only [awpOp, hv, hg1, cond_true, mkArgs, nrms_eq, nrmH_eq, fL_eq, hr2]
        unfold locK
        rw [hg3, b0]
        simp only [cond_true, srK_iff]
        exact hres (fun r h2 => K (putO e d r) h2) hk
      cases hs : (orc.s f (drpOs (pulAs rho (evs args e ++ caps))) (pulBs rho (blks h rho))).res with
      | ok r n =>
        simp only [hs] at ho
        obtain ⟨hcc, h1, h2, h3⟩ := key r n True ho
        refine fin r n h1 (fun k hk => ?_) h3
        rw [hs]
        simp only [h2, cond_true]
        exact hk
      | iff c' r n =>
        simp only [hs] at ho
        obtain ⟨hcc, h1, h2, h3⟩ := key r n c' ho
        refine fin r n h1 (fun k hk => ?_) h3
        rw [hs]
        simp only [h2, cond_true]
        exact ⟨by rw [hcc]; exact hc, hk⟩
      | bad => simp only [hs] at ho; cases ho
      | br _ _ _ => simp only [hs] at ho; cases ho
  | cap d x =>
    simp only [oout] at ho
    split at ho
    · rename_i u xs hv
      obtain ⟨rfl, rfl, rfl, rfl⟩ := one_inj ho
      simp only [awpOp, hv]
      exact hK
    · cases ho
  | boxc d t x =>
    simp only [oout] at ho
    cases hf : fits (x.ev e) t with
    | false => rw [hf] at ho; cases ho
    | true =>
      rw [hf] at ho
      obtain ⟨rfl, rfl, rfl, rfl⟩ := one_inj ho
      simp only [awpOp, hf, cond_true, nrm_eq]
      exact hK
  | appz d off el bs s n => cases ho
  | trim d x y => cases ho
  | eqnil d n x => cases ho
  | stop d => cases ho
end Go.Vc
