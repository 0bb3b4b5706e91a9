/- From a row's arguments to data. -/
import Derived.Test.YtiddoflcajgjjaaVcOk
import Derived.ChangeShapes
import Derived.DataReads
import Derived.OpenShut
import Derived.ReadAgain
import Derived.SizedLaws
import Derived.RowKit
import Derived.JoinedOf
import Derived.KernelRfl
set_option linter.unusedVariables false
set_option linter.unusedSimpArgs false
namespace Go.Vc
open Go.WideShapes Go.ChangeShapes Go.RowKit

/-- All cells that are there. -/
def allS (w : World) : SetS := fun b o => ∃ v, w.cell? ⟨b, o, none⟩ = some v

/-! ### Bytes of a type; what a reading weighs -/
def kindBytes : IntKind → Nat
  | .i8 => 1 | .u8 => 1 | .i16 => 2 | .u16 => 2 | .i32 => 4 | .u32 => 4 | _ => 8
def upTo (n a : Nat) : Nat := (n + a - 1) / a * a
mutual
def Ty.align : Ty → Nat
  | .int k => kindBytes k
  | .bool => 1
  | .st ts => Ty.aligns ts
  | .arr _ e => Ty.align e
  | _ => 8
def Ty.aligns : List Ty → Nat
  | [] => 1
  | t :: ts => Nat.max (Ty.align t) (Ty.aligns ts)
end
mutual
def Ty.bts : Ty → Nat
  | .int k => kindBytes k
  | .bool => 1
  | .str => 16
  | .sl _ => 24
  | .st ts => upTo (Ty.btss ts 0) (Ty.aligns ts)
  | .arr n e => n * Ty.bts e
  | _ => 8
def Ty.btss : List Ty → Nat → Nat
  | [], n => n
  | t :: ts, n => Ty.btss ts (upTo n (Ty.align t) + Ty.bts t)
end
mutual
def wtOK (P : Program) : TypeId → Ty → Bool
  | _, .int _ => true
  | _, .bool => true
  | _, .str => true
  | t, .sl e => match P.underlying t with
    | some (.slice te) => Nat.ble e.bts (P.bytesOf te) && Nat.blt 0 e.size && wtOK P te e
    | _ => false
  | t, .st ts => match P.underlying t with
    | some (.struct fs) => wtOKs P fs.toList ts
    | _ => false
  | t, .arr n e => match P.underlying t with
    | some (.array _ te) => wtOK P te e
    | _ => false
  | _, _ => false
def wtOKs (P : Program) : List Field → List Ty → Bool
  | [], [] => true
  | f :: fs, t :: ts => wtOK P f.type t && wtOKs P fs ts
  | _, _ => false
end
mutual
/-- How long a row's argument may be. -/
def okW : Ty → D → Prop
  | .str, d => d.str.size ≤ reachBytes
  | .sl e, d => d.list.length * e.bts ≤ reachBytes ∧ ∀ x ∈ d.list, okW e x
  | .st ts, d => okWs ts 0 d
  | .arr n e, d => ∀ x ∈ d.fs, okW e x
  | _, _ => True
def okWs : List Ty → Nat → D → Prop
  | [], _, _ => True
  | t :: ts, i, d => okW t (d.fld i) ∧ okWs ts (i + 1) d
end

section
variable {P : Program} {w : World} {H : Type} {enc : TypeId × Value → H}

theorem cellsOf_size {t : TypeId} {T : Ty} (h : tyOK P t T = true) : P.cellsOf t = T.size := by
  obtain ⟨i, hi, hs⟩ := info_size h
  simp [Program.cellsOf, hi, hs]

theorem cell_spot {a : Addr} {v : Value} (h : w.cell? a = some v) : a.spot = none := by
  unfold World.cell? at h
  split at h
  · split at h
    · cases h
    · rename_i hs; simpa using hs
  · cases h

theorem RelL_build {sz : Nat} {R : List Value → D → Prop} : ∀ (xs : List D) (cs : List Value), cs.length = xs.length * sz → (∀ i x, xs[i]? = some x → R ((cs.drop (i * sz)).take sz) x) → RelL sz R cs xs
  | [], cs, hl, _ => by simp at hl; simp [RelL, hl]
  | x :: xs, cs, hl, h => by
    have hsz : (xs.length + 1) * sz = sz + xs.length * sz := by rw [Nat.add_mul]; omega
    have hl' : cs.length = sz + xs.length * sz := by simpa [hsz] using hl
    refine ⟨cs.take sz, cs.drop sz, by rw [List.take_append_drop], by simp; omega, by simpa using h 0 x rfl, ?_⟩
    exact RelL_build xs (cs.drop sz) (by simp; omega) (fun i y hy => by
      have := h (i + 1) y (by simpa using hy)
      rw [List.drop_drop]
      rwa [show (i + 1) * sz = sz + i * sz by rw [Nat.add_mul]; omega] at this)

theorem wf_has {k : IntKind} {n : Int} (h : (Lit.int k n).wf = true) : k.has n := by
  simpa [Lit.wf, IntKind.has] using h

/-- A list of data out of pieces each of which is one. -/
theorem pick_list {α : Type} {Q : Nat → α → D → Prop} : ∀ (l : List α), (∀ i x, l[i]? = some x → ∃ d, Q i x d) → ∃ ds : List D, ds.length = l.length ∧ ∀ i x d, l[i]? = some x → ds[i]? = some d → Q i x d
  | l, h => by
    classical
    refine ⟨(List.range l.length).map fun i => if hi : i < l.length then Classical.choose (h i l[i] (List.getElem?_eq_getElem hi)) else .i 0, by simp, fun i x d hx hd => ?_⟩
    have hi : i < l.length := by
      rcases Nat.lt_or_ge i l.length with h1 | h1
      · exact h1
      · rw [List.getElem?_eq_none h1] at hx; cases hx
    rw [List.getElem?_map, List.getElem?_range hi] at hd
    simp only [Option.map_some, Option.some.injEq, hi, dif_pos] at hd
    have hx' : l[i] = x := by rw [List.getElem?_eq_getElem hi] at hx; exact Option.some.inj hx
    have := Classical.choose_spec (h i l[i] (List.getElem?_eq_getElem hi))
    rw [hd] at this
    rw [← hx']
    exact this

theorem all_le {l : List Nat} : l.all (· ≤ reachBytes) = true ↔ ∀ n ∈ l, n ≤ reachBytes := by
  simp [List.all_eq_true]
theorem weightsAll_mem {e : TypeId} : ∀ {l : List (DataW H)} {d : DataW H}, d ∈ l → ∀ n ∈ d.weights P e, n ∈ DataW.weightsAll P e l
  | x :: l, d, h, n, hn => by
    simp only [DataW.weightsAll, List.mem_append]
    rcases List.mem_cons.1 h with rfl | h
    · exact .inl hn
    · exact .inr (weightsAll_mem h n hn)

def Good (P : Program) (w : World) (t : TypeId) (T : Ty) (cs : List Value) (x : DataW H) (d : D) : Prop :=
  RelD w (allS w) T cs d ∧ ((∀ n ∈ x.weights P t, n ≤ reachBytes) → okW T d)

mutual
theorem trod_rel : ∀ (T : Ty) (t : TypeId) (fuel : Nat) (cs : List Value) (x : DataW H × List MemPlace), tyOK P t T = true → wtOK P t T = true → DataW.trod enc P w 0 (fun _ => true) true fuel t cs = some x → ∃ d, Good P w t T cs x.1 d
  | .int k, t, fuel, cs, x, ht, _, h => by
    obtain ⟨d, hd, rfl⟩ := tyOK_und ht
    obtain ⟨n, rfl, rfl, hw⟩ := DataW.trod_int hd h
    exact ⟨.i n, by simp only [RelD, D.int]; exact ⟨trivial, wf_has hw, trivial⟩, fun _ => by simp only [okW]⟩
  | .bool, t, fuel, cs, x, ht, _, h => by
    obtain ⟨d, hd, rfl⟩ := tyOK_und ht
    obtain ⟨b, rfl, rfl⟩ := DataW.trod_bool hd h
    exact ⟨.b b, by simp only [RelD, D.bool], fun _ => by simp only [okW]⟩
  | .str, t, fuel, cs, x, ht, _, h => by
    obtain ⟨d, hd, rfl⟩ := tyOK_und ht
    obtain ⟨s, rfl, rfl, hs⟩ := DataW.trod_string hd h
    refine ⟨.s s, by simp only [RelD, D.str]; exact ⟨trivial, hs⟩, fun hn => ?_⟩
    simp only [okW, D.str]
    exact hn _ (by simp [DataW.weights])
  | .sl e, t, fuel, cs, x, ht, hz, h => by
    obtain ⟨d, hd, te, rfl, hte⟩ := tyOK_und ht
    have hsz := cellsOf_size hte
    simp only [wtOK, hd, Bool.and_eq_true] at hz
    obtain ⟨⟨hb, h0⟩, hz⟩ := hz
    have hb : e.bts ≤ P.bytesOf te := Nat.le_of_ble_eq_true hb
    have h0 : 0 < e.size := by simpa [Nat.blt_eq] using h0
    rcases DataW.trod_slice hd h with ⟨rfl, rfl⟩ | ⟨a, len, cap, elems, rest, n, _, rfl, rfl, _, hlc, hcm, hel, hget, hrest, _⟩
    · refine ⟨.l [], by simp only [RelD, D.list]; exact ⟨none, 0, 0, rfl, rfl, Nat.le_refl _, by simp [maxLen], fun j x hj => by simp at hj⟩, fun _ => ?_⟩
      simp only [okW, D.list]
      exact ⟨by simp, by simp⟩
    · obtain ⟨b, o, spot⟩ := a
      have key : ∀ i x, elems[i]? = some x → ∃ d, (∃ cells, spot = none ∧ Lies w (allS w) b (o + i * e.size) cells ∧ cells.length = e.size ∧ Good P w te e cells x.1 d) := by
        intro i x hx
        have hi : i < len := by
          rcases Nat.lt_or_ge i elems.length with h1 | h1
          · omega
          · rw [List.getElem?_eq_none h1] at hx; cases hx
        have hi' := hget i hi
        rw [hx, Option.bind_eq_some_iff] at hi'
        obtain ⟨cells, h1, h2⟩ := hi'
        rw [hsz] at h1
        obtain ⟨_, hcl, hcell⟩ := World.cells?_some h1
        obtain ⟨d, hd⟩ := trod_rel e te n cells x hte hz h2
        have hsp : spot = none := by
          have h00 := hget 0 (by omega)
          rw [List.getElem?_eq_getElem (by omega), Option.bind_eq_some_iff] at h00
          obtain ⟨cells0, h10, _⟩ := h00
          rw [hsz] at h10
          obtain ⟨_, hcl0, hcell0⟩ := World.cells?_some h10
          have := hcell0 0 h0
          obtain ⟨c0, hc0⟩ : ∃ c0, cells0[0]? = some c0 := ⟨_, List.getElem?_eq_getElem (by omega)⟩
          rw [hc0] at this
          simpa [Addr.add] using cell_spot this
        subst hsp
        refine ⟨d, cells, rfl, fun k v hk => ?_, hcl, hd⟩
        have hk' : k < cells.length := by
          rcases Nat.lt_or_ge k cells.length with h1 | h1
          · exact h1
          · rw [List.getElem?_eq_none h1] at hk; cases hk
        have := hcell k (by omega)
        rw [hk] at this
        have e1 : ((⟨b, o, none⟩ : Addr).add (i * e.size)).add k = ⟨b, o + i * e.size + k, none⟩ := by rw [add_plain, add_plain]
        rw [e1] at this
        exact ⟨this, v, this⟩
      obtain ⟨ds, hl, hds⟩ := pick_list elems key
      refine ⟨.l ds, ?_, fun hn => ?_⟩
      · simp only [RelD, D.list]
        refine ⟨_, len, cap, rfl, by omega, hlc, hcm, fun j y hj => ?_⟩
        have hj' : j < ds.length := by
          rcases Nat.lt_or_ge j ds.length with h1 | h1
          · exact h1
          · rw [List.getElem?_eq_none h1] at hj; cases hj
        obtain ⟨cells, h1, h2, h3, h4, _⟩ := hds j _ y (List.getElem?_eq_getElem (by omega)) hj
        exact ⟨b, o, cells, by rw [h1], h2, h3, h4⟩
      · simp only [okW, D.list]
        simp only [DataW.weights, hd] at hn
        refine ⟨?_, fun y hy => ?_⟩
        · have := hn _ List.mem_cons_self
          refine Nat.le_trans ?_ this
          refine Nat.mul_le_mul ?_ hb
          simp; omega
        · obtain ⟨j, hj⟩ := List.getElem?_of_mem hy
          have hj' : j < ds.length := by
            rcases Nat.lt_or_ge j ds.length with h1 | h1
            · exact h1
            · rw [List.getElem?_eq_none h1] at hj; cases hj
          obtain ⟨cells, h1, h2, h3, _, h4⟩ := hds j _ y (List.getElem?_eq_getElem (by omega)) hj
          refine h4 fun m hm => hn m (List.mem_cons_of_mem _ (List.mem_append_left _ ?_))
          exact weightsAll_mem (List.mem_map.2 ⟨_, List.getElem_mem _, rfl⟩) m hm
  | .st ts, t, fuel, cs, x, ht, hz, h => by
    have hcs := cellsOf_size ht
    obtain ⟨d, hd, fs, rfl, hfs⟩ := tyOK_und ht
    simp only [wtOK, hd] at hz
    obtain ⟨xs, n, _, rfl, hl, hlen, hf⟩ := DataW.trod_struct hd h
    rw [hcs] at hl
    obtain ⟨ds, h1, h2, h3⟩ := trods_rel ts fs.toList 0 n cs xs hfs hz (by simpa [Ty.size] using hl) (by simpa using hlen) (fun i f hi => by simpa using hf i f (by simpa using hi))
    refine ⟨.a ds, ?_, fun hn => ?_⟩
    · simp only [RelD]
      exact h2 (.a ds) 0 (fun j => by simp [D.fld, D.fs])
    · simp only [okW]
      simp only [DataW.weights, hd] at hn
      exact h3 hn (.a ds) 0 (fun j => by simp [D.fld, D.fs])
  | .arr n e, t, fuel, cs, x, ht, hz, h => by
    have hcs := cellsOf_size ht
    obtain ⟨d, hd, te, rfl, hte⟩ := tyOK_und ht
    have hsz := cellsOf_size hte
    simp only [wtOK, hd] at hz
    obtain ⟨xs, m, _, rfl, hl, hlen, hf⟩ := DataW.trod_array hd h
    rw [hcs, Ty.size] at hl
    have key : ∀ i x, xs[i]? = some x → ∃ d, Good P w te e ((cs.drop (i * e.size)).take e.size) x.1 d := by
      intro i x hx
      have hi : i < n := by
        rcases Nat.lt_or_ge i xs.length with h1 | h1
        · omega
        · rw [List.getElem?_eq_none h1] at hx; cases hx
      have := hf i hi
      rw [hx, hsz] at this
      exact trod_rel e te m _ x hte hz this
    obtain ⟨ds, hdl, hds⟩ := pick_list xs key
    refine ⟨.a ds, ?_, fun hn => ?_⟩
    · simp only [RelD, D.fs]
      refine ⟨by omega, RelL_build ds cs (by rw [hl, hdl, hlen]) fun i y hy => ?_⟩
      have hi : i < ds.length := by
        rcases Nat.lt_or_ge i ds.length with h1 | h1
        · exact h1
        · rw [List.getElem?_eq_none h1] at hy; cases hy
      exact (hds i _ y (List.getElem?_eq_getElem (by omega)) hy).1
    · simp only [okW, D.fs]
      simp only [DataW.weights, hd] at hn
      intro y hy
      obtain ⟨j, hj⟩ := List.getElem?_of_mem hy
      have hj' : j < ds.length := by
        rcases Nat.lt_or_ge j ds.length with h1 | h1
        · exact h1
        · rw [List.getElem?_eq_none h1] at hj; cases hj
      refine (hds j _ y (List.getElem?_eq_getElem (by omega)) hj).2 fun m hm => hn m ?_
      exact weightsAll_mem (List.mem_map.2 ⟨_, List.getElem_mem _, rfl⟩) m hm
  | .ptr, t, _, _, _, _, hz, _ => by simp [wtOK] at hz
  | .fn, t, _, _, _, _, hz, _ => by simp [wtOK] at hz
  | .op, t, _, _, _, _, hz, _ => by simp [wtOK] at hz
theorem trods_rel : ∀ (ts : List Ty) (fs : List Field) (off n : Nat) (cs : List Value) (xs : List (DataW H × List MemPlace)), tyOKs P fs ts off = true → wtOKs P fs ts = true → cs.length = off + Ty.sizes ts → xs.length = fs.length →
    (∀ (i : Nat) (f : Field), fs[i]? = some f → DataW.trod enc P w 0 (fun _ => true) true n f.type ((cs.drop f.offset).take (P.cellsOf f.type)) = xs[i]?) →
    ∃ ds : List D, ds.length = ts.length ∧ (∀ (d : D) (i : Nat), (∀ j, d.fld (i + j) = ds.getD j (.i 0)) → RelDs w (allS w) ts i (cs.drop off) d) ∧
      ((∀ m ∈ DataW.weightsEach P (fs.map (·.type)) (xs.map (·.1)), m ≤ reachBytes) → ∀ (d : D) (i : Nat), (∀ j, d.fld (i + j) = ds.getD j (.i 0)) → okWs ts i d)
  | [], fs, off, n, cs, xs, hfs, hz, hl, hx, hf => by
    refine ⟨[], rfl, fun d i _ => ?_, fun _ d i _ => by simp only [okWs]⟩
    simp only [RelDs]
    simp [Ty.sizes] at hl
    exact List.drop_of_length_le (by omega)
  | t :: ts, [], off, n, cs, xs, hfs, hz, hl, hx, hf => by simp [tyOKs] at hfs
  | t :: ts, f :: fs, off, n, cs, [], hfs, hz, hl, hx, hf => by simp at hx
  | t :: ts, f :: fs, off, n, cs, x :: xs, hfs, hz, hl, hx, hf => by
    simp only [tyOKs, Bool.and_eq_true] at hfs
    obtain ⟨⟨⟨h1, _⟩, h2⟩, h3⟩ := hfs
    simp only [wtOKs, Bool.and_eq_true] at hz
    have h1 : f.offset = off := by simpa using h1
    simp only [Ty.sizes] at hl
    have h0 := hf 0 f rfl
    rw [h1, cellsOf_size h2] at h0
    obtain ⟨d0, hd0, hw0⟩ := trod_rel t f.type n _ x h2 hz.1 h0
    obtain ⟨ds, hd1, hd2, hd3⟩ := trods_rel ts fs (off + t.size) n cs xs h3 hz.2 (by omega) (by simpa using hx) (fun i g hg => by simpa using hf (i + 1) g (by simpa using hg))
    refine ⟨d0 :: ds, by simp [hd1], fun d i hd => ?_, fun hn d i hd => ?_⟩
    · simp only [RelDs]
      refine ⟨(cs.drop off).take t.size, cs.drop (off + t.size), ?_, ?_, hd2 d (i + 1) fun j => ?_⟩
      · rw [← List.drop_drop, List.take_append_drop]
      · have := hd 0
        simp at this
        rw [this]
        exact hd0
      · have := hd (j + 1)
        simp at this
        rw [show i + 1 + j = i + (j + 1) by omega, this]; simp
    · simp only [okWs]
      simp only [List.map_cons, DataW.weightsEach] at hn
      refine ⟨?_, hd3 (fun m hm => hn m (List.mem_append_right _ hm)) d (i + 1) fun j => ?_⟩
      · have := hd 0
        simp at this
        rw [this]
        exact hw0 fun m hm => hn m (List.mem_append_left _ hm)
      · have := hd (j + 1)
        simp at this
        rw [show i + 1 + j = i + (j + 1) by omega, this]; simp
end

/-! ### All arguments of a row -/
def tysOK (P : Program) : List TypeId → List Ty → Bool
  | [], [] => true
  | t :: ts, T :: Ts => tyOK P t T && wtOK P t T && Nat.blt t P.types.size && tysOK P ts Ts
  | _, _ => false
def ofL : List Ty → List D → List AV
  | T :: Ts, d :: ds => ofD T d :: ofL Ts ds
  | _, _ => []
/-- What is known of a row's arguments. -/
def okL : List Ty → List D → Prop
  | [], [] => True
  | T :: Ts, d :: ds => okD T d ∧ okW T d ∧ okL Ts ds
  | _, _ => False
def yes : PR → Prop
  | .ok (.bool b) _ => b = true
  | .iff c (.bool b) _ => c ∧ b = true
  | _ => False

theorem okWide_array {w : World} {r : Reach} {base : Nat} {t e : TypeId} {n : Nat} {v : Value} (ht : P.underlying t = some (.array n e)) (h : Value.okWide P w r base t v) : ∃ cs, v = .agg cs := by
  unfold Value.okWide at h
  rw [ht] at h
  obtain ⟨cs, h, _⟩ := h
  exact ⟨cs, h⟩

theorem RelV_ofD {mu : Mu} {hp : Heap} {S : SetS} {r : Reach} {base : Nat} {t : TypeId} {T : Ty} {v : Value} {d : D} (ht : tyOK P t T = true) (hval : Value.okWide P w r base t v) (h : RelD w S T v.cells.toList d) : RelV w S mu hp (ofD T d) v := by
  obtain ⟨u, hu, hT⟩ := tyOK_und ht
  have h' := ofD_rel (mu := mu) (H := hp) T _ d h
  cases T with
  | int k => obtain ⟨n, rfl⟩ := okWide_int (by rw [hu, hT]) hval; exact h'
  | bool => obtain ⟨n, rfl⟩ := okWide_bool (by rw [hu, hT]) hval; exact h'
  | str => obtain ⟨n, rfl⟩ := okWide_string (by rw [hu, hT]) hval; exact h'
  | sl e => obtain ⟨te, rfl, _⟩ := hT; obtain ⟨a, len, cap, rfl⟩ := okWide_slice hu hval; exact h'
  | st ts => obtain ⟨fs, rfl, _⟩ := hT; obtain ⟨cs, rfl, _⟩ := okWide_struct hu hval; simp only [ofD, RelV]; exact ⟨cs, rfl, by simpa [Value.cells, ofD] using h'⟩
  | arr n e => obtain ⟨te, rfl, _⟩ := hT; obtain ⟨cs, rfl⟩ := okWide_array hu hval; simp only [ofD, RelV]; exact ⟨cs, rfl, by simpa [Value.cells, ofD] using h'⟩
  | ptr => simp [RelD] at h
  | fn => simp [RelD] at h
  | op => simp [RelD] at h

theorem argsL_rel {base : Nat} : ∀ (Ts : List Ty) (ts : List TypeId) (vs : List Value) (ds : List (DataW H)) (ps : List MemPlace), tysOK P ts Ts = true →
    (∀ (j : Nat) t v, ts[j]? = some t → vs[j]? = some v → Value.okWide P w .any base t v) → DataW.TrodAll enc P w 0 (fun _ => true) true ts vs ds ps → (∀ n ∈ DataW.weightsEach P ts ds, n ≤ reachBytes) →
    ∃ xs : List D, RelVs w (allS w) mu0 [] (ofL Ts xs) vs ∧ okL Ts xs
  | [], [], vs, ds, ps, _, _, h, _ => by
    obtain ⟨rfl, rfl, rfl⟩ := trodAll_nil h
    exact ⟨[], by simp only [ofL, RelVs], by simp only [okL]⟩
  | T :: Ts, t :: ts, vs, ds, ps, hT, hv, h, hw => by
    obtain ⟨v, vs, d, ds, p, q, rfl, rfl, rfl, ⟨fuel, h1⟩, h2⟩ := trodAll_cons h
    simp only [tysOK, Bool.and_eq_true] at hT
    obtain ⟨⟨⟨ht, hwt⟩, _⟩, hT⟩ := hT
    simp only [DataW.weightsEach] at hw
    obtain ⟨x, hx, hxw⟩ := trod_rel T t fuel _ _ ht hwt h1
    obtain ⟨xs, hxs, hok⟩ := argsL_rel Ts ts vs ds q hT (fun j t v h3 h4 => hv (j + 1) t v (by simpa using h3) (by simpa using h4)) h2 (fun n hn => hw n (List.mem_append_right _ hn))
    refine ⟨x :: xs, ?_, ?_⟩
    · simp only [ofL, RelVs]
      exact ⟨v, vs, rfl, RelV_ofD ht (hv 0 t v rfl rfl) hx, hxs⟩
    · simp only [okL]
      exact ⟨okD_rel T _ x hx, hxw fun n hn => hw n (List.mem_append_left _ hn), hok⟩
  | [], _ :: _, _, _, _, hT, _, _, _ => by simp [tysOK] at hT
  | _ :: _, [], _, _, _, hT, _, _, _ => by simp [tysOK] at hT

theorem TrodAll_carry {w' : World} : ∀ {ts : List TypeId} {vs : List Value} {ds : List (DataW H)} {ps : List MemPlace}, DataW.TrodAll enc P w 0 (fun _ => true) true ts vs ds ps → (∀ p ∈ ps, w.sameAt w' p) → DataW.TrodAll enc P w' 0 (fun _ => true) true ts vs ds ps
  | [], vs, ds, ps, h, _ => by
    obtain ⟨rfl, rfl, rfl⟩ := trodAll_nil h
    exact h
  | t :: ts, vs, ds, ps, h, hs => by
    obtain ⟨v, vs, d, ds, p, q, rfl, rfl, rfl, ⟨fuel, h1⟩, h2⟩ := trodAll_cons h
    exact ⟨p, q, ⟨fuel, DataW.trod_carry _ _ _ _ h1 fun x hx => hs x (List.mem_append_left _ hx)⟩, TrodAll_carry h2 (fun x hx => hs x (List.mem_append_right _ hx)), rfl⟩
theorem tysOK_lt : ∀ {ts : List TypeId} {Ts : List Ty}, tysOK P ts Ts = true → ∀ t ∈ ts, t < P.types.size
  | [], [], _, t, h => by cases h
  | t :: ts, T :: Ts, hT, u, h => by
    simp only [tysOK, Bool.and_eq_true] at hT
    rcases List.mem_cons.1 h with rfl | h
    · simpa [Nat.blt_eq] using hT.1.2
    · exact tysOK_lt hT.2 u h
  | [], _ :: _, hT, _, _ => by simp [tysOK] at hT
  | _ :: _, [], hT, _, _ => by simp [tysOK] at hT
theorem trodAll_length {base : Nat} {sp : Nat → Bool} {hd : Bool} : ∀ {ts : List TypeId} {vs : List Value} {ds : List (DataW H)} {ps : List MemPlace}, DataW.TrodAll enc P w base sp hd ts vs ds ps → ds.length = ts.length
  | [], vs, ds, ps, h => by
    obtain ⟨rfl, rfl, rfl⟩ := trodAll_nil h
    rfl
  | t :: ts, vs, ds, ps, h => by
    obtain ⟨v, vs, d, ds, p, q, rfl, rfl, rfl, _, h2⟩ := trodAll_cons h
    simp [trodAll_length h2]
theorem tysOK_length : ∀ {ts : List TypeId} {Ts : List Ty}, tysOK P ts Ts = true → ts.length = Ts.length
  | [], [], _ => rfl
  | t :: ts, T :: Ts, hT => by
    simp only [tysOK, Bool.and_eq_true] at hT
    simp [tysOK_length hT.2]
  | [], _ :: _, hT => by simp [tysOK] at hT
  | _ :: _, [], hT => by simp [tysOK] at hT

/-- All slices of the program have elements that take cells; types lie as they should. -/
def typesOK (P : Program) : Bool := laidOutB P && mapsRowed P && ((List.range P.types.size).all fun t => match P.underlying t with | some (.slice e) => decide (0 < P.cellsOf e) | _ => true)

theorem law_row {C : Checked} {os : Os} {f : FuncId} {fn : Func} {s : ChangeSpec} {conds : List PathCond} {apart fresh again : Bool} {orc : Orc} (Ts : List Ty) {tb : TypeId}
    (own : ownKnob C.prog.godebug = none) (started : os.Started) (noInit : C.prog.inits.idxOf? f = none) (hfn : C.prog.funcs[f]? = some fn)
    (witness : ∃ (w : World) (tape : Tape) (i : Input), w.os = os ∧ (w.forCall tape i).Shaped C.prog ∧ i.vars = [] ∧ Input.okWide C.prog (w.forCall tape i) .any w.heap.size f i ∧
      s.pre6 enc C.prog fn conds apart (w.forCall tape i).memory i.args ∧ ({} : Assume).holds C.prog (lone (Frame.enter C.prog f i.args .normal) [] (w.forCall tape i)))
    (hty : typesOK C.prog = true) (hT : tysOK C.prog fn.params.toList Ts = true) (hr : fn.resultTypes = #[tb]) (htb : C.prog.underlying tb = some .bool)
    (hvars : s.vars = []) (hspec : ∀ (H : Type) (ds : List (DataW H)), ds.length = Ts.length → s.fn H ds = { results := [.lit (.bool true)], args := ds })
    (hp : POK C.prog orc f) (hlaw : ∀ xs, okL Ts xs → yes (orc.p f (ofL Ts xs)).res) :
    ReturnsInHanded {} C os f .any (s.pre6 enc C.prog fn conds apart) (s.post enc C.prog fn apart fresh false again) := by
  simp only [typesOK, Bool.and_eq_true] at hty
  obtain ⟨⟨hl, hm⟩, hz⟩ := hty
  refine returnsInHanded_of_change_sized own started noInit hfn witness ?_
  intro W base args ds gs before hval hW _ hwt _
  have hW' := hW
  obtain ⟨p, q, hA, hV, rfl, hfz, hnd⟩ := hW
  rw [hvars] at hV
  obtain ⟨rfl, rfl⟩ := trodVars_none hV
  have hwt' : ∀ n ∈ DataW.weightsEach C.prog fn.params.toList ds, n ≤ reachBytes := by
    have e : s.plain.varTypes C.prog = [] := by simp [DataSpec.varTypes, ChangeSpec.plain, hvars]
    rw [e, List.append_nil, List.append_nil] at hwt
    exact all_le.1 hwt
  obtain ⟨xs, hrel, hok⟩ := argsL_rel Ts fn.params.toList args.toList ds p hT (fun j t v h1 h2 => hval j t v (by simpa using h1) (by simpa using h2)) hA hwt'
  have hyes := hlaw xs hok
  have h0 := hp (ofL Ts xs) args W (allS W) hrel (fun b o h => h)
  have key : ∃ n, Calls C.prog f args W (PPost W (allS W) (.bool true) n) := by
    revert hyes h0
    cases (orc.p f (ofL Ts xs)).res with
    | ok r n => cases r <;> simp only [yes] <;> intro hyes h0 <;> first | exact hyes.elim | (subst hyes; exact ⟨n, h0⟩)
    | iff c r n => cases r <;> simp only [yes] <;> intro hyes h0 <;> first | exact hyes.elim | (obtain ⟨hc, hb⟩ := hyes; subst hb; exact ⟨n, h0 hc⟩)
    | bad => intro hyes _; exact hyes.elim
    | br _ _ _ => intro hyes _; exact hyes.elim
  obtain ⟨n, hk⟩ := key
  refine hk.mono fun e W' he => ?_
  obtain ⟨v, S', mu', rfl, hv, _, hE⟩ := he
  simp only [RelV, RelA] at hv
  injection hv with hv
  subst hv
  have hframe : ∀ b, b < W.heap.size → W'.heap[b]? = W.heap[b]? := fun b hb => hE.frame b hb fun id => by simp [mu0]
  have hlt := DataW.TrodAll.lt hA
  have hsame : ∀ x ∈ p, W.sameAt W' x := fun x hx => by
    have hb := hframe _ (hlt x hx)
    cases x with
    | cell b off => simp only [MemPlace.block] at hb; simp only [World.sameAt, World.cell?]; rw [hb]
    | map b => exact hb
  have hA' := TrodAll_carry hA hsame
  have hargs : ∀ sp : Nat → Bool, (∀ x ∈ p, sp x.block = true) → DataW.TrodAll enc C.prog W' 0 sp true fn.params.toList args.toList ds p := fun sp hsp =>
    DataW.TrodAll.respare (kids_rows hl hm) (fun t e h1 h2 => slices_full_of C.prog hz t e h1 h2) (tysOK_lt hT) hA' hsp
  have hlen : ds.length = Ts.length := (trodAll_length hA).trans (tysOK_length hT)
  have hfnd : s.fn H (ds ++ []) = { results := [.lit (.bool true)], args := ds } := by rw [List.append_nil]; exact hspec H ds hlen
  have hres : ∀ (b : Nat) (sp : Nat → Bool) (hd : Bool), DataW.TrodAll enc C.prog W' b sp hd fn.resultTypes.toList ((Value.bool true).resultList fn.resultTypes.size) [.lit (.bool true)] [] := by
    intro b sp hd
    rw [hr]
    exact trodAll_mk1 ⟨1, by simp [DataW.trod, Value.cells, htb]⟩
  rw [List.append_nil] at hW' hfz
  refine ⟨_, rfl, ds, [], p, [], p, [], hW', ?_, ?_, ?_, ?_, fun _ => ?_⟩
  · rw [hfnd]; exact hres _ _ _
  · rw [hfnd]; exact hargs _ fun x hx => by simpa using hlt x hx
  · rw [hfnd, hvars]; rfl
  · refine ⟨hE.os, hE.output, fun i hi => ?_⟩
    rw [hframe i hi]
    cases W.heap[i]? with
    | none => rfl
    | some o => cases o <;> simp
  · refine ⟨?_, .lit (.bool true) :: ds, [], p, ⟨p, [], ?_, ?_, by simp, ?_, fun ha => ?_⟩, fun x hx _ => hx⟩
    · intro j t r h1 h2
      rw [hr] at h1 h2
      cases j with
      | zero => simp at h1; simp [Value.resultList] at h2; subst h1; subst h2; exact okWide_bool_mk htb true
      | succ j => simp at h1
    · exact trodAll_append (hargs (fun _ => true) fun _ _ => rfl) (hres 0 (fun _ => true) true)
    · rw [hvars]; rfl
    · intro b off hp
      have hb := hframe b (hlt _ hp)
      have : W'.frozen? ⟨b, off, none⟩ = W.frozen? ⟨b, off, none⟩ := by simp only [World.frozen?]; rw [hb]
      rw [this]
      exact hfz b off hp
    · have := hnd ha
      simpa using this
end
end Go.Vc
