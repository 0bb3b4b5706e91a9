/- What is known of arguments; contracts, to be shown with no world in sight. -/
import Derived.Test.YtgcakbnkeiajeaaVcFun
set_option linter.unusedVariables false
set_option linter.unusedSimpArgs false
namespace Go.Vc

mutual
def okD : Ty → D → Prop
  | .int k, d => k.has d.int ∧ d = .i d.int
  | .str, d => d.str.size ≤ maxLen
  | .sl e, d => d.list.length ≤ maxLen ∧ ∀ x ∈ d.list, okD e x
  | .st ts, d => okDs ts 0 d
  | .arr n e, d => d.fs.length = n ∧ ∀ x ∈ d.fs, okD e x
  | _, _ => True
def okDs : List Ty → Nat → D → Prop
  | [], _, _ => True
  | t :: ts, i, d => okD t (d.fld i) ∧ okDs ts (i + 1) d
end
mutual
def okA : AV → Prop
  | .int k n => k.has n
  | .str s => s.size ≤ maxLen
  | .sl e xs _ => xs.length ≤ maxLen ∧ ∀ x ∈ xs, okD e x
  | .st vs => okAs vs
  | .arr n e xs => xs.length = n ∧ ∀ x ∈ xs, okD e x
  | .cptr t d => okD t d
  | _ => True
def okAs : List AV → Prop
  | [] => True
  | v :: vs => okA v ∧ okAs vs
end

section
variable {P : Program} {w : World} {S : SetS} {mu : Mu} {H : Heap} {nt : Nat}
theorem RelL_ok {sz : Nat} {R : List Value → D → Prop} {Q : D → Prop} (hR : ∀ cs d, R cs d → Q d) : ∀ (cs : List Value) (xs : List D), RelL sz R cs xs → ∀ x ∈ xs, Q x
  | _, [], _ => fun x hx => by cases hx
  | _, y :: ys, h => by
    obtain ⟨c1, c2, _, _, h2, h3⟩ := h
    intro x hx
    rcases List.mem_cons.1 hx with rfl | hx
    · exact hR _ _ h2
    · exact RelL_ok hR _ _ h3 x hx
theorem RelS_ok {sz : Nat} {R : List Value → D → Prop} {Q : D → Prop} (hR : ∀ cs d, R cs d → Q d) {a : Option Addr} {n c : Nat} {xs : List D} (h : RelS w S sz R a n c xs) : xs.length ≤ maxLen ∧ ∀ x ∈ xs, Q x := by
  obtain ⟨h1, h2, h3, h4⟩ := h
  refine ⟨by omega, fun x hx => ?_⟩
  obtain ⟨j, hj⟩ := List.getElem?_of_mem hx
  obtain ⟨b, o, cs, _, _, _, hr⟩ := h4 j x hj
  exact hR _ _ hr
mutual
theorem okD_rel : ∀ (t : Ty) (cs : List Value) (d : D), RelD w S t cs d → okD t d
  | .int k, cs, d, h => by simp only [RelD, okD] at h ⊢; exact h.2
  | .bool, cs, d, h => by simp only [okD]
  | .str, cs, d, h => by simp only [RelD, okD] at h ⊢; exact h.2
  | .sl e, cs, d, h => by
    simp only [RelD, okD] at h ⊢
    obtain ⟨a, n, c, _, h1⟩ := h
    exact RelS_ok (fun cs d hd => okD_rel e cs d hd) h1
  | .st ts, cs, d, h => by simp only [RelD, okD] at h ⊢; exact okDs_rel ts 0 cs d h
  | .arr n e, cs, d, h => by simp only [RelD, okD] at h ⊢; exact ⟨h.1, RelL_ok (fun cs d hd => okD_rel e cs d hd) _ _ h.2⟩
  | .ptr, _, _, h => by simp [RelD] at h
  | .fn, _, _, h => by simp [RelD] at h
  | .op, _, _, h => by simp [RelD] at h
theorem okDs_rel : ∀ (ts : List Ty) (i : Nat) (cs : List Value) (d : D), RelDs w S ts i cs d → okDs ts i d
  | [], _, _, _, _ => by simp only [okDs]
  | t :: ts, i, cs, d, h => by
    simp only [RelDs, okDs] at h ⊢
    obtain ⟨c1, c2, _, h1, h2⟩ := h
    exact ⟨okD_rel t c1 _ h1, okDs_rel ts (i + 1) c2 d h2⟩
end
mutual
theorem okA_rel : ∀ (v : AV) (cs : List Value), RelA w S mu H v cs → okA v
  | .int k n, cs, h => by simp only [RelA, okA] at h ⊢; exact h.2
  | .str s, cs, h => by simp only [RelA, okA] at h ⊢; exact h.2
  | .sl e xs t, cs, h => by
    simp only [RelA, okA] at h ⊢
    obtain ⟨a, n, c, _, h1, _⟩ := h
    exact RelS_ok (fun cs d hd => okD_rel e cs d hd) h1
  | .st vs, cs, h => by simp only [RelA, okA] at h ⊢; exact okAs_rel vs cs h
  | .arr n e xs, cs, h => by simp only [RelA, okA] at h ⊢; exact ⟨h.1, RelL_ok (fun cs d hd => okD_rel e cs d hd) _ _ h.2⟩
  | .cptr t d, cs, h => by
    simp only [RelA, okA] at h ⊢
    obtain ⟨_, _, _, cells, _, h2⟩ := h
    exact okD_rel t cells d h2
  | .undef, _, _ | .bool _, _, _ | .rsl .., _, _ | .ptr .., _, _ | .nilp, _, _ | .fn .., _, _ | .nilfn, _, _ | .tup _, _, _ => by simp only [okA]
theorem okAs_rel : ∀ (vs : List AV) (cs : List Value), RelAs w S mu H vs cs → okAs vs
  | [], _, _ => by simp only [okAs]
  | v :: vs, cs, h => by
    simp only [RelAs, okAs] at h ⊢
    obtain ⟨c1, c2, _, h1, h2⟩ := h
    exact ⟨okA_rel v c1 h1, okAs_rel vs c2 h2⟩
end
theorem okV_rel (v : AV) (u : Value) (h : RelV w S mu H v u) : okA v := by
  cases v <;> simp only [RelV] at h <;> first
    | exact okA_rel _ _ h
    | (obtain ⟨_, _, h⟩ := h; exact okA_rel _ _ h)
    | simp only [okA]
theorem okVs_rel : ∀ (vs : List AV) (us : List Value), RelVs w S mu H vs us → okAs vs
  | [], _, _ => by simp only [okAs]
  | v :: vs, us, h => by
    simp only [RelVs, okAs] at h ⊢
    obtain ⟨u, us', _, h1, h2⟩ := h
    exact ⟨okV_rel v u h1, okVs_rel vs us' h2⟩

/-- What is to be shown of a function's body. -/
def Body (orc : Orc) (nt : Nat) (rs : List RV) (ac : AC) (args : List AV) (r : AV) (n : Heap) : Prop :=
  Nat.ble args.length nt = true ∧ awp orc ac (argE 0 args) [] (fun o e h => Leaf rs o e h r n)
def Fits (orc : Orc) (nt : Nat) (rs : List RV) (ac : AC) (args : List AV) : PR → Prop
  | .br b x y => (b = true → Fits orc nt rs ac args x) ∧ (b = false → Fits orc nt rs ac args y)
  | .ok r n => Body orc nt rs ac args r n
  | .iff c r n => c → Body orc nt rs ac args r n
  | .bad => True

theorem Fits.res {orc : Orc} {nt : Nat} {rs : List RV} {ac : AC} {args : List AV} : ∀ (q : PR), Fits orc nt rs ac args q → Fits orc nt rs ac args q.res
  | .br b x y, h => by
    simp only [Fits] at h
    simp only [PR.res]
    cases b with
    | true => exact Fits.res x (h.1 rfl)
    | false => exact Fits.res y (h.2 rfl)
  | .ok _ _, h | .iff _ _ _, h | .bad, h => h
theorem pok_of {orc : Orc} {f : FuncId} {rs : List RV} {ac : AC} (hck : funOK P f nt rs ac = true) (hm : P.follows .mixedOrders = true) (hp : ∀ g ∈ acP ac, POK P orc g) (hs : ∀ g ∈ acS ac, SOK P orc g)
    (h : ∀ args, okAs args → Fits orc nt rs ac args (orc.p f args)) : POK P orc f := by
  intro args vals w S hargs hthere
  have h1 := (h args (okVs_rel _ _ hargs)).res
  cases hr : (orc.p f args).res with
  | ok r n => rw [hr] at h1; exact fun_sound hck hm hp hs hargs hthere h1.1 h1.2
  | iff c r n => rw [hr] at h1; exact fun hc => fun_sound hck hm hp hs hargs hthere (h1 hc).1 (h1 hc).2
  | bad => trivial
  | br _ _ _ => trivial
def BodyS (orc : Orc) (nt : Nat) (rs : List RV) (ac : AC) (args : List AV) (H : Heap) (r : AV) (n : Heap) : Prop :=
  Nat.ble args.length nt = true ∧ awp orc ac (argE 0 args) H (fun o e h => LeafS rs H.length o e h r n)
def FitsS (orc : Orc) (nt : Nat) (rs : List RV) (ac : AC) (args : List AV) (H : Heap) : SR → Prop
  | .br b x y => (b = true → FitsS orc nt rs ac args H x) ∧ (b = false → FitsS orc nt rs ac args H y)
  | .ok r n => BodyS orc nt rs ac args H r n
  | .iff c r n => c → BodyS orc nt rs ac args H r n
  | .bad => True
theorem FitsS.res {orc : Orc} {nt : Nat} {rs : List RV} {ac : AC} {args : List AV} {H : Heap} : ∀ (q : SR), FitsS orc nt rs ac args H q → FitsS orc nt rs ac args H q.res
  | .br b x y, h => by
    simp only [FitsS] at h
    simp only [SR.res]
    cases b with
    | true => exact FitsS.res x (h.1 rfl)
    | false => exact FitsS.res y (h.2 rfl)
  | .ok _ _, h | .iff _ _ _, h | .bad, h => h
theorem sok_of {orc : Orc} {f : FuncId} {rs : List RV} {ac : AC} (hck : funOK P f nt rs ac = true) (hm : P.follows .mixedOrders = true) (hp : ∀ g ∈ acP ac, POK P orc g) (hs : ∀ g ∈ acS ac, SOK P orc g)
    (h : ∀ args H, okAs args → FitsS orc nt rs ac args H (orc.s f args H)) : SOK P orc f := by
  intro args vals w S mu H hargs hH
  have h1 := (h args H (okVs_rel _ _ hargs)).res
  cases hr : (orc.s f args H).res with
  | ok r n => rw [hr] at h1; exact fun_soundS hck hm hp hs hargs hH h1.1 h1.2
  | iff c r n => rw [hr] at h1; exact fun hc => fun_soundS hck hm hp hs hargs hH (h1 hc).1 (h1 hc).2
  | bad => trivial
  | br _ _ _ => trivial
end
end Go.Vc
