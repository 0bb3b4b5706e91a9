/- A part of the proof of the seat's laws: VcStep, VcNum, VcExt. It states no claim by itself. -/
import Derived.Test.YtiddoflcajgjjaaVcOk
/- Steps: loops by a ghost state; ends of functions. -/
set_option linter.unusedVariables false
namespace Go.Vc

/-- A stop. -/
structure Wr (p : Prop) : Prop where
  p : p
section
variable {orc : Orc} {env : Env} {h : Heap} {K : Out → Env → Heap → Prop}
theorem st_seq {a b : AC} (H : ∀ K' : Out → Env → Heap → Prop, (∀ e h, awp orc b e h K → K' .next e h) → (∀ i e h, K (.exit i) e h → K' (.exit i) e h) → (∀ e h, K .ret e h → K' .ret e h) → awp orc a env h K') : awp orc (.seq a b) env h K :=
  H (kseq (awp orc b) K) (fun _ _ h => h) (fun _ _ _ h => h) (fun _ _ h => h)
theorem st_block {id : Nat} {a : AC} (H : ∀ K' : Out → Env → Heap → Prop, (∀ e h, K .next e h → K' .next e h) → (∀ i e h, (bif Nat.beq i id then K .next e h else K (.exit i) e h) → K' (.exit i) e h) → (∀ e h, K .ret e h → K' .ret e h) → awp orc a env h K') : awp orc (.block id a) env h K :=
  H (kblk id K) (fun _ _ h => h) (fun _ _ _ h => h) (fun _ _ h => h)
theorem st_region {n : Nat} {ops : List GD} (H : nrmH (h ++ List.replicate n .resv) fun h1 => fId h.length fun b => Wr (awpOps orc b ops env h1 (K .next))) : awp orc (.region n ops) env h K := by
  rw [nrmH_eq, fId_eq] at H
  simp only [awp, nrmH_eq, fId_eq]
  exact H.p
theorem thawK_mono {v : AV} {h : Heap} {p q : Heap → AV → Prop} (hpq : ∀ h v, p h v → q h v) (H : thawK v h p) : thawK v h q := by
  unfold thawK at H ⊢
  split at H
  · split at H
    · rename_i o len _ f xs hb
      cases ho : Nat.beq o 0 <;> simp only [ho, cond_true, cond_false, nrmH_eq, fId_eq] at H ⊢
      · exact ⟨H.c, hpq _ _ H.p⟩
    · exact H
  · exact H
theorem st_tregion {d n : Nat} {ops : List GD} (H : thawK (get env d) h fun (h0 : Heap) v => nrmH (h0 ++ List.replicate n Blk.resv) fun h1 => fId h0.length fun b => Wr (awpOps orc b ops (put env d v) h1 (K .next))) : awp orc (.tregion d n ops) env h K := by
  simp only [awp]
  refine thawK_mono (fun h0 v hh => ?_) H
  rw [nrmH_eq, fId_eq] at hh ⊢
  exact hh.p
theorem st_draw {n : Nat} {pre : List (List Nat)} {par tail : List GD} (H : nrmH (h ++ List.replicate n .resv) fun h1 => fId h.length fun b => Wr (awpDs orc b pre par 0 [] env h1 (ktl orc b tail (K .next)))) : awp orc (.draw n pre par tail) env h K := by
  rw [nrmH_eq, fId_eq] at H
  simp only [awp, nrmH_eq, fId_eq]
  exact H.p
def condK (v : AV) (p q : Prop) : Prop := match v with
  | .bool c => Br c (Wr p) (Wr q)
  | _ => False
theorem st_cond {x : Ar} {a b : AC} (H : condK (x.ev env) (awp orc a env h K) (awp orc b env h K)) : awp orc (.cond x a b) env h K := by
  simp only [awp]
  unfold condK at H
  split at H
  · rename_i c hc
    rw [hc]
    exact ⟨fun h => (H.t h).p, fun h => (H.f h).p⟩
  · exact H.elim
theorem st_skip (H : K .next env h) : awp orc .skip env h K := H
theorem st_exit {i : Nat} (H : K (.exit i) env h) : awp orc (.exit i) env h K := H
theorem st_ret (H : K .ret env h) : awp orc .ret env h K := H
theorem st_loop {live : List Nat} {a : AC} (H : Lp live env h (awp orc a) K) : awp orc (.loop live a) env h K := H
end
section
variable {orc : Orc} {env : Env} {h : Heap} {base : Nat} {K : Env → Heap → Prop}
theorem Cont_wr {g : Bool} {e : Env} {p : Env → Prop} (h : Cont g e fun e => Wr (p e)) : Cont g e p := by
  unfold Cont at h ⊢
  cases e with
  | nil => exact h.p
  | cons x r =>
    obtain ⟨d, v⟩ := x
    simp only [nrm_eq] at h ⊢
    cases g with
    | false => exact h.p
    | true =>
      cases v <;> first | exact h.p | exact ⟨h.p.p⟩
theorem st_nil (H : K env h) : awpOps orc base [] env h K := H
theorem st_op {o : AOp} {r : List GD} (H : ∀ G : Env → Heap → Prop, (∀ e h, (Cont o.gens e fun e => Wr (awpOps orc base r e h K)) → G e h) → awpOp orc base o env h G) : awpOps orc base ((none, o) :: r) env h K := by
  refine H (kops (awpOps orc base r) o.gens K) fun e h hh => ?_
  exact Cont_wr hh
def gopK (v : AV) (want : Bool) (p q : Prop) : Prop := match v with
  | .bool b => Br b (Wr (bif want then p else q)) (Wr (bif want then q else p))
  | .tup [] => Wr q
  | _ => False
def gdopK (v : AV) (want : Bool) (p q : Prop) : Prop := match v with
  | .bool b => Br b (Wr (bif want then p else q)) (Wr (bif want then q else p))
  | .tup [] => Wr q
  | _ => False
theorem st_gop {o : AOp} {r : List GD} {t : Nat} {want : Bool} (H : gopK (get env t) want (awpOps orc base ((none, o) :: r) env h K) (awpOps orc base r (putO env o.dst (.tup [])) h K)) : awpOps orc base ((some (t, want), o) :: r) env h K := by
  unfold gopK at H
  split at H
  · rename_i b hb
    simp only [awpOps, hb]
    refine ⟨fun h1 => ?_, fun h1 => ?_⟩
    · have := (H.t h1).p
      cases want <;> exact this
    · have := (H.f h1).p
      cases want <;> exact this
  · rename_i hb
    simp only [awpOps, hb]
    exact H.p
  · exact H.elim
theorem st_dnil {pre : List (List Nat)} {k : Nat} {acc : List Fp} (H : K env h) : awpDs orc base pre [] k acc env h K := H
theorem st_dop {pre : List (List Nat)} {k : Nat} {acc : List Fp} {o : AOp} {r : List GD}
    (H : ∀ G : OT → Prop, (∀ c v ws rs, (bif okFp (ws.map (·.1)) rs (pre.getD k []) acc then Nd c (Cont o.gens (putO env o.dst v) fun e => Wr (awpDs orc base pre r (k + 1) ((k, ws.map (·.1), rs) :: acc) e (setAll h ws) K)) else False) → G (.one c v ws rs)) → otK (oout orc base o env h) G) :
    awpDs orc base pre ((none, o) :: r) k acc env h K := by
  refine H (kds (awpDs orc base pre r (k + 1)) o.gens o.dst k (pre.getD k []) acc env h K) fun c v ws rs hh => ?_
  simp only [kds]
  cases hok : okFp (ws.map (·.1)) rs (pre.getD k []) acc with
  | false => rw [hok] at hh; exact hh.elim
  | true =>
    rw [hok] at hh
    exact ⟨hh.c, Cont_wr hh.p⟩
theorem st_gdop {pre : List (List Nat)} {k : Nat} {acc : List Fp} {o : AOp} {r : List GD} {t : Nat} {want : Bool} (H : gdopK (get env t) want (awpDs orc base pre ((none, o) :: r) k acc env h K) (awpDs orc base pre r (k + 1) acc (putO env o.dst (.tup [])) h K)) : awpDs orc base pre ((some (t, want), o) :: r) k acc env h K := by
  unfold gdopK at H
  split at H
  · rename_i b hb
    simp only [awpDs, hb]
    refine ⟨fun h1 => ?_, fun h1 => ?_⟩
    · have := (H.t h1).p
      cases want <;> exact this
    · have := (H.f h1).p
      cases want <;> exact this
  · rename_i hb
    simp only [awpDs, hb]
    exact H.p
  · exact H.elim
theorem st_tl {tail : List GD} (H : nrmH h fun h => Wr (awpOps orc base tail env h K)) : ktl orc base tail K env h := by
  rw [nrmH_eq] at H
  simp only [ktl, nrmH_eq]
  exact H.p
end
/-- The end of a function that is handed a heap. -/
def endS (rs : List RV) (k : Nat) (e : Env) (h : Heap) (r : AV) (n : Heap) : Prop := match resVs e h rs with
  | some vs => nrms vs fun vs => nrmH (h.take k) fun h' => bif Nat.ble k h.length && low k (oneOrTup vs) && lowH k (h.take k) then nrm (oneOrTup vs) fun r' => Fin r' h' r n else False
  | none => False
theorem LeafS.fin {rs : List RV} {k : Nat} {o : Out} {e : Env} {h : Heap} {r : AV} {n : Heap} (ho : isExit o = false) (H : endS rs k e h r n) : LeafS rs k o e h r n := by
  refine ⟨ho, ?_⟩
  unfold endS at H
  unfold cloS
  split at H
  · rename_i vs hvs
    rw [hvs]
    simp only [nrms_eq, nrmH_eq, nrm_eq] at H
    simp only
    cases hg : (Nat.ble k h.length && low k (oneOrTup vs) && lowH k (h.take k)) with
    | false => rw [hg] at H; exact H.elim
    | true =>
      rw [hg] at H
      have h1 : Fin (oneOrTup vs) (h.take k) r n := H
      simp only [cond_true]
      rw [h1.r, h1.n]
  · exact H.elim
theorem Bo.yes {b : Bool} {p : Bool → Prop} (h : b = true) (k : p true) : Bo b p := ⟨by rw [h]; exact k⟩
theorem Bo.no {b : Bool} {p : Bool → Prop} (h : b = false) (k : p false) : Bo b p := ⟨by rw [h]; exact k⟩
theorem exists_min {p : Nat → Prop} (h : ∃ n, p n) : ∃ n, p n ∧ ∀ k, p k → n ≤ k := by
  obtain ⟨n, hn⟩ := h
  induction n using Nat.strongRecOn with
  | _ n ih =>
    by_cases hx : ∃ k, k < n ∧ p k
    · obtain ⟨k, h1, h2⟩ := hx
      exact ih k h1 h2
    · exact ⟨n, hn, fun k hk => by
        rcases Nat.lt_or_ge k n with h | h
        · exact absurd ⟨k, h, hk⟩ hx
        · exact h⟩

/-- A loop, by a ghost state: what the live slots and the heap hold of it, what is known of it, what falls. -/
theorem loop_of {α : Type} {live : List Nat} {env : Env} {h : Heap} {body : Env → Heap → (Out → Env → Heap → Prop) → Prop} {K : Out → Env → Heap → Prop}
    (E : α → Env) (G : α → Heap) (inv : α → Prop) (m : α → Nat) (a0 : α) (hE : restr live env = E a0) (hG : h = G a0) (h0 : inv a0) (hlen : ∀ a, inv a → (G a).length = h.length)
    (step : ∀ a, inv a → ∀ J : Env → Heap → Prop, (∀ a', inv a' → m a' < m a → J (E a') (G a')) → ∀ K' : Out → Env → Heap → Prop, (∀ e h1, Nx live h.length J e h1 → K' .next e h1) → (∀ i e h, K (.exit i) e h → K' (.exit i) e h) → (∀ e h, K .ret e h → K' .ret e h) → body (E a) (G a) K') : Lp live env h body K := by
  classical
  let P : Env → Heap → Nat → Prop := fun e h n => ∃ a, e = E a ∧ h = G a ∧ inv a ∧ m a = n
  have hmin : ∀ e h, (∃ n, P e h n) → ∃ n, P e h n ∧ ∀ k, P e h k → n ≤ k := fun e h hx => exists_min hx
  let mm : Env → Heap → Nat := fun e h => if hx : ∃ n, P e h n then Classical.choose (hmin e h hx) else 0
  refine ⟨fun e h => ∃ n, P e h n, mm, ⟨m a0, a0, hE, hG, h0, rfl⟩, fun e h1 hl hI => ?_⟩
  have hm : mm e h1 = Classical.choose (hmin e h1 hI) := by simp only [mm]; rw [dif_pos hI]
  obtain ⟨⟨a, rfl, rfl, hia, hma⟩, hle⟩ := Classical.choose_spec (hmin e h1 hI)
  rw [← hm] at hma
  refine step a hia _ (fun a' hi' hlt => ?_) (klp live h.length _ K) (fun _ _ h => h) (fun _ _ _ h => h) (fun _ _ h => h)
  have hx : ∃ n, P (E a') (G a') n := ⟨m a', a', rfl, rfl, hi', rfl⟩
  refine ⟨hx, ?_⟩
  have h2 : mm (E a') (G a') = Classical.choose (hmin _ _ hx) := by simp only [mm]; rw [dif_pos hx]
  have h3 := (Classical.choose_spec (hmin _ _ hx)).2 (m a') ⟨a', rfl, rfl, hi', rfl⟩
  rw [h2, ← hma]
  omega

end Go.Vc
/- Numbers: wraps and bits. -/
set_option linter.unusedVariables false
namespace Go.Vc

theorem w8 (n : Int) : IntKind.u8.wrap n = n % 256 := by simp [IntKind.wrap, IntKind.bits, IntKind.signed]
theorem w16 (n : Int) : IntKind.u16.wrap n = n % 65536 := by simp [IntKind.wrap, IntKind.bits, IntKind.signed]
theorem w32 (n : Int) : IntKind.u32.wrap n = n % 4294967296 := by simp [IntKind.wrap, IntKind.bits, IntKind.signed]
theorem w64 (n : Int) : IntKind.u64.wrap n = n % 18446744073709551616 := by simp [IntKind.wrap, IntKind.bits, IntKind.signed]
theorem wi64 (n : Int) : IntKind.i64.wrap n = (n + 9223372036854775808) % 18446744073709551616 - 9223372036854775808 := by
  simp only [IntKind.wrap, IntKind.bits, IntKind.signed]
  simp
  split <;> omega
theorem wi64_in {n : Int} (h1 : -9223372036854775808 ≤ n) (h2 : n ≤ 9223372036854775807) : IntKind.i64.wrap n = n := by rw [wi64]; omega
theorem has_i64 {n : Int} (h : IntKind.i64.has n) : -9223372036854775808 ≤ n ∧ n ≤ 9223372036854775807 := by
  simpa [IntKind.has, IntKind.min, IntKind.max, IntKind.signed, IntKind.bits] using h
theorem has_u8 {n : Int} (h : IntKind.u8.has n) : 0 ≤ n ∧ n ≤ 255 := by simpa [IntKind.has, IntKind.min, IntKind.max, IntKind.signed, IntKind.bits] using h
theorem has_u16 {n : Int} (h : IntKind.u16.has n) : 0 ≤ n ∧ n ≤ 65535 := by simpa [IntKind.has, IntKind.min, IntKind.max, IntKind.signed, IntKind.bits] using h
theorem has_u32 {n : Int} (h : IntKind.u32.has n) : 0 ≤ n ∧ n ≤ 4294967295 := by simpa [IntKind.has, IntKind.min, IntKind.max, IntKind.signed, IntKind.bits] using h
theorem has_u64 {n : Int} (h : IntKind.u64.has n) : 0 ≤ n ∧ n ≤ 18446744073709551615 := by simpa [IntKind.has, IntKind.min, IntKind.max, IntKind.signed, IntKind.bits] using h

theorem ofInt_nat {w : Nat} {n : Nat} (h : n < 2 ^ w) : (BitVec.ofInt w (n : Int)).toNat = n := by
  rw [BitVec.toNat_ofInt]
  have : ((n : Int) % ((2 ^ w : Nat) : Int)) = ((n % 2 ^ w : Nat) : Int) := by simp
  rw [this, Int.toNat_natCast, Nat.mod_eq_of_lt h]
theorem wrap_nat {k : IntKind} (hk : k.signed = false) {n : Nat} (h : n < 2 ^ k.bits) : k.wrap (n : Int) = n := by
  simp only [IntKind.wrap, hk, Bool.false_and, Bool.false_eq_true, if_false]
  have : ((n : Int) % ((2 : Int) ^ k.bits)) = ((n % 2 ^ k.bits : Nat) : Int) := by simp
  rw [this, Nat.mod_eq_of_lt h]
theorem bit_or_nat {k : IntKind} (hk : k.signed = false) {a b i : Nat} (hb : b < 2 ^ i) (hs : a * 2 ^ i + b < 2 ^ k.bits) : bitI .or k ((a * 2 ^ i : Nat) : Int) (b : Int) = ((a * 2 ^ i + b : Nat) : Int) := by
  simp only [bitI]
  rw [BitVec.toNat_or, ofInt_nat (by omega), ofInt_nat (by omega)]
  have : a * 2 ^ i ||| b = a * 2 ^ i + b := by
    have := Nat.shiftLeft_add_eq_or_of_lt hb a
    rw [Nat.shiftLeft_eq] at this
    exact this.symm
  rw [this]
  exact wrap_nat hk hs
theorem bit_and_nat {k : IntKind} (hk : k.signed = false) {a i : Nat} (hi : i ≤ k.bits) (ha : a < 2 ^ k.bits) : bitI .and k (a : Int) ((2 ^ i - 1 : Nat) : Int) = ((a % 2 ^ i : Nat) : Int) := by
  simp only [bitI]
  have h1 : 2 ^ i ≤ 2 ^ k.bits := Nat.pow_le_pow_right (by decide) hi
  have h0 : 0 < 2 ^ i := Nat.pow_pos (by decide)
  rw [BitVec.toNat_and, ofInt_nat ha, ofInt_nat (by omega), Nat.and_two_pow_sub_one_eq_mod]
  exact wrap_nat hk (Nat.lt_of_le_of_lt (Nat.mod_le _ _) ha)

/-- Bits put beside each other. -/
theorem bit_or {k : IntKind} (hk : k.signed = false) (i : Nat) {x b : Int} (q : Int) (hq : 0 ≤ q) (hx : x = q * 2 ^ i) (h0 : 0 ≤ b) (hb : b < 2 ^ i) (hs : x + b < 2 ^ k.bits) : bitI .or k x b = x + b := by
  subst hx
  obtain ⟨a, rfl⟩ := Int.eq_ofNat_of_zero_le hq
  obtain ⟨c, rfl⟩ := Int.eq_ofNat_of_zero_le h0
  have e1 : (a : Int) * 2 ^ i = ((a * 2 ^ i : Nat) : Int) := by simp
  have e2 : (2 : Int) ^ i = ((2 ^ i : Nat) : Int) := by simp
  have e3 : (2 : Int) ^ k.bits = ((2 ^ k.bits : Nat) : Int) := by simp
  rw [e1, e3] at hs
  rw [e2] at hb
  rw [e1, bit_or_nat hk (Int.ofNat_lt.1 hb) (by omega)]
  simp
theorem bit_and {k : IntKind} (hk : k.signed = false) (i : Nat) {x y : Int} (hi : i ≤ k.bits) (hx : 0 ≤ x) (hx' : x < 2 ^ k.bits) (hy : y = 2 ^ i - 1) : bitI .and k x y = x % 2 ^ i := by
  obtain ⟨a, rfl⟩ := Int.eq_ofNat_of_zero_le hx
  have e2 : (2 : Int) ^ i = ((2 ^ i : Nat) : Int) := by simp
  have e3 : (2 : Int) ^ k.bits = ((2 ^ k.bits : Nat) : Int) := by simp
  have h0 : 0 < 2 ^ i := Nat.pow_pos (by decide)
  rw [e3] at hx'
  have e4 : y = ((2 ^ i - 1 : Nat) : Int) := by rw [hy, e2]; omega
  rw [e4, bit_and_nat hk hi (Int.ofNat_lt.1 hx')]
  simp
theorem pow2_pos (a : Nat) : (0 : Int) < 2 ^ a := Int.pow_pos (by decide)
theorem pow2_le {a b : Nat} (h : a ≤ b) : (2 : Int) ^ a ≤ 2 ^ b := by
  have := Nat.pow_le_pow_right (n := 2) (by decide) h
  have e1 : (2 : Int) ^ a = ((2 ^ a : Nat) : Int) := by simp
  have e2 : (2 : Int) ^ b = ((2 ^ b : Nat) : Int) := by simp
  rw [e1, e2]
  exact Int.ofNat_le.2 this
theorem pow256 (i : Nat) : (2 : Int) ^ (8 * i) = 256 ^ i := by rw [Int.pow_mul]; rfl
theorem fdiv_pow (n : Int) (i : Nat) : n.fdiv (2 ^ i) = n / 2 ^ i := Int.fdiv_eq_ediv_of_nonneg _ (Int.le_of_lt (pow2_pos i))
/-! ### Tests that are known -/
theorem ct_eq (a b : Int) : (true = cmpI .eq a b) = (a = b) := by simp [cmpI]
theorem cf_eq (a b : Int) : (false = cmpI .eq a b) = (a ≠ b) := by simp [cmpI, eq_comm (a := false)]
theorem ct_ne (a b : Int) : (true = cmpI .ne a b) = (a ≠ b) := by simp [cmpI, eq_comm (a := true)]
theorem cf_ne (a b : Int) : (false = cmpI .ne a b) = (a = b) := by simp [cmpI, eq_comm (a := false)]
theorem ct_lt (a b : Int) : (true = cmpI .lt a b) = (a < b) := by simp [cmpI, eq_comm (a := true)]
theorem cf_lt (a b : Int) : (false = cmpI .lt a b) = (b ≤ a) := by simp [cmpI, eq_comm (a := false)]
theorem ct_le (a b : Int) : (true = cmpI .le a b) = (a ≤ b) := by simp [cmpI, eq_comm (a := true)]
theorem cf_le (a b : Int) : (false = cmpI .le a b) = (b < a) := by simp [cmpI, eq_comm (a := false)]
theorem ct_gt (a b : Int) : (true = cmpI .gt a b) = (b < a) := by simp [cmpI, eq_comm (a := true)]
theorem cf_gt (a b : Int) : (false = cmpI .gt a b) = (a ≤ b) := by simp [cmpI, eq_comm (a := false)]
theorem ct_ge (a b : Int) : (true = cmpI .ge a b) = (b ≤ a) := by simp [cmpI, eq_comm (a := true)]
theorem cf_ge (a b : Int) : (false = cmpI .ge a b) = (a < b) := by simp [cmpI, eq_comm (a := false)]
theorem ct_not (b : Bool) : (true = !b) = (b = false) := by cases b <;> simp
theorem cf_not (b : Bool) : (false = !b) = (b = true) := by cases b <;> simp
theorem ct_and (a b : Bool) : (true = (a && b)) = (a = true ∧ b = true) := by cases a <;> cases b <;> simp
theorem cf_and (a b : Bool) : (false = (a && b)) = (a = true → b = false) := by cases a <;> cases b <;> simp
theorem ct_dec (p : Prop) [Decidable p] : (true = decide p) = p := by by_cases h : p <;> simp [h]
theorem cf_dec (p : Prop) [Decidable p] : (false = decide p) = ¬ p := by by_cases h : p <;> simp [h]
theorem i_nil {α : Type} : ((([] : List α).length : Nat) : Int) = 0 := rfl
theorem dInt (n : Int) : (D.i n).int = n := rfl
theorem dBool (b : Bool) : (D.b b).bool = b := rfl
theorem dStr (b : ByteArray) : (D.s b).str = b := rfl
theorem dList (xs : List D) : (D.l xs).list = xs := rfl
theorem dFs (xs : List D) : (D.a xs).fs = xs := rfl
theorem dFld (xs : List D) (i : Nat) : (D.a xs).fld i = xs.getD i (.i 0) := rfl
/-- What the steps' facts are cleaned with, as one. -/
theorem bl0 : (∀ n : Int, (D.i n).int = n) ∧ (∀ b : Bool, (D.b b).bool = b) ∧ (∀ b : ByteArray, (D.s b).str = b) ∧ (∀ xs : List D, (D.l xs).list = xs) ∧ (∀ xs : List D, (D.a xs).fs = xs) ∧ (∀ (xs : List D) (i : Nat), (D.a xs).fld i = xs.getD i (.i 0)) ∧ (∀ n : Nat, 0 + n = n) ∧
    (∀ (x d : D) (xs : List D), (x :: xs).getD 0 d = x) ∧ (∀ (x d : D) (xs : List D) (n : Nat), (x :: xs).getD (n + 1) d = xs.getD n d) ∧ (∀ (x d : Ty) (xs : List Ty), (x :: xs).getD 0 d = x) ∧ (∀ (x d : Ty) (xs : List Ty) (n : Nat), (x :: xs).getD (n + 1) d = xs.getD n d) :=
  ⟨fun _ => rfl, fun _ => rfl, fun _ => rfl, fun _ => rfl, fun _ => rfl, fun _ _ => rfl, Nat.zero_add, fun _ _ _ => rfl, fun _ _ _ _ => rfl, fun _ _ _ => rfl, fun _ _ _ _ => rfl⟩
theorem bl1 : (∀ i : Decidable True, @decide True i = true) ∧ (∀ i : Decidable False, @decide False i = false) ∧
    ((!true) = false) ∧ ((!false) = true) ∧ (∀ b : Bool, (b && true) = b) ∧ (∀ b : Bool, (true && b) = b) ∧ (∀ b : Bool, (b && b) = b) ∧ ((false = true) = False) ∧
    (∀ a b : Bool, (bif true then a else b) = a) ∧ (∀ a b : Bool, (bif false then a else b) = b) ∧ (∀ a b : Int, (bif true then a else b) = a) ∧ (∀ a b : Int, (bif false then a else b) = b) ∧ (∀ b : Bool, (b == b) = true) :=
  ⟨fun i => decide_true i, fun i => decide_false i, rfl, rfl, Bool.and_true, Bool.true_and, Bool.and_self, by simp, fun _ _ => rfl, fun _ _ => rfl, fun _ _ => rfl, fun _ _ => rfl, fun b => beq_self_eq_true b⟩
end Go.Vc
/- More facts for the proofs about functions. -/
namespace Go.Vc
theorem eqDn_self {f : D → D → Bool} (hf : ∀ x, f x x = true) : ∀ (n : Nat) (xs : List D), eqDn f n xs xs = true
  | 0, _ => rfl
  | n + 1, xs => by
    show (f _ _ && eqDn f n _ _) = true
    rw [hf, eqDn_self hf n]
    rfl
theorem eqDn_int (k : IntKind) (n : Nat) (xs : List D) : eqDn (eqD (.int k)) n xs xs = true := eqDn_self (fun x => by simp [eqD]) n xs
theorem ctd (p : Prop) {i : Decidable p} : (true = @decide p i) = p := by by_cases h : p <;> simp [h]
theorem cfd (p : Prop) {i : Decidable p} : (false = @decide p i) = ¬ p := by by_cases h : p <;> simp [h]
theorem dtd (p : Prop) {i : Decidable p} : (@decide p i = true) = p := by by_cases h : p <;> simp [h]
theorem dfd (p : Prop) {i : Decidable p} : (@decide p i = false) = ¬ p := by by_cases h : p <;> simp [h]
end Go.Vc
