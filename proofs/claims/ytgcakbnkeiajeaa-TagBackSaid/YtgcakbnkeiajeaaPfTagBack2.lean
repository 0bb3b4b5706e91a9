/- A part of the proof of the seat's laws: PfTagBack2. It states no claim by itself. -/
import Derived.Test.YtgcakbnkeiajeaaPfTagBack0
set_option linter.unusedVariables false
set_option linter.unusedSimpArgs false
namespace Go.Vc.Seat
open Go.Vc Go.Proofs.Try
set_option maxHeartbeats 8000000 in
theorem tagBack1 {p : Int} {d : Bool} {v p' : Int} {d' u' : Bool} {i' : Int} {da sa m b : List D} (h1 : tagOK p v = false) (h2 : itagOK p' i' = true)
    (hok : okAs [.st [.int .i64 p, .bool d, .int .i64 v], .st [.int .i64 p', .bool d', .bool u', .int .i64 i', .arr 6 (.int .u8) da, .arr 6 (.int .u8) sa], .sl (.int .u8) m .no, .sl (.int .u8) b .no]) :
    Body orc nt_l02_TagBack rs_l02_TagBack ac_l02_TagBack [.st [.int .i64 p, .bool d, .int .i64 v], .st [.int .i64 p', .bool d', .bool u', .int .i64 i', .arr 6 (.int .u8) da, .arr 6 (.int .u8) sa], .sl (.int .u8) m .no, .sl (.int .u8) b .no] (.bool true) [] := by
  unfold ac_l02_TagBack
  refine ⟨rfl, ?_⟩
  simp only [okAs, okA, maxLen] at hok
  have hb400 : ∀ x ∈ b.take 400, okD (.int .u8) x := fun x hx => hok.2.2.2.1.2 x (List.mem_of_mem_take hx)
  have lM : (m.take 400).length ≤ 400 := by rw [List.length_take]; omega
  have lB : (b.take 400).length ≤ 400 := by rw [List.length_take]; omega
  have a0 := ato_le hb400 0
  have a1 := ato_le hb400 1
  have a2 := ato_le hb400 2
  have a3 := ato_le hb400 3
  have bN := tagNum_back (N := ato (b.take 400) 0 * 256 + ato (b.take 400) 1) (by omega)
  have bI := itagOK_iff (p := ato (b.take 400) 0 / 32) (v := ato (b.take 400) 1 * 65536 + ato (b.take 400) 2 * 256 + ato (b.take 400) 3)
  have bJ : itagOK (ato (b.take 400) 0 / 32) (ato (b.take 400) 1 * 65536 + ato (b.take 400) 2 * 256 + ato (b.take 400) 3) = true := bI.2 (by omega)
  clear bI
  have s1 : tagOK p v = true → (decide ((be (tagNum p d v) 2 ++ m.take 400).length < 2) = false) ∧ (ato (be (tagNum p d v) 2 ++ m.take 400) 0 * 256 + ato (be (tagNum p d v) 2 ++ m.take 400) 1 = tagNum p d v) ∧ tagNum p d v / 8192 = p ∧ tagNum p d v % 4096 = v ∧ decide (tagNum p d v / 4096 % 2 = 1) = d := fun h =>
    have q := tagNum_in (d := d) h
    ⟨by simp [be_length], be2n q.1, q.2⟩
  have s2 : itagOK p' i' = true → (decide ((be (itagNum p' d' u' i') 4 ++ da ++ sa ++ m.take 400).length < 16) = false) ∧ ato (be (itagNum p' d' u' i') 4 ++ da ++ sa ++ m.take 400) 0 / 32 = p' ∧ ato (be (itagNum p' d' u' i') 4 ++ da ++ sa ++ m.take 400) 1 * 65536 + ato (be (itagNum p' d' u' i') 4 ++ da ++ sa ++ m.take 400) 2 * 256 + ato (be (itagNum p' d' u' i') 4 ++ da ++ sa ++ m.take 400) 3 = i' ∧ decide (ato (be (itagNum p' d' u' i') 4 ++ da ++ sa ++ m.take 400) 0 / 16 % 2 = 1) = d' ∧ decide (ato (be (itagNum p' d' u' i') 4 ++ da ++ sa ++ m.take 400) 0 / 8 % 2 = 1) = u' ∧ decide (ato (be (itagNum p' d' u' i') 4 ++ da ++ sa ++ m.take 400) 0 % 8 = 0) = true := fun h => by
    have q := itagNum_in (d := d') (u := u') h
    have w := be4n (m := da ++ sa ++ m.take 400) q.1
    simp only [List.append_assoc] at w ⊢
    rw [w.1, w.2]
    exact ⟨by simp [be_length, hok.2.1.2.2.2.2.1.1, hok.2.1.2.2.2.2.2.1.1]; omega, q.2.1, q.2.2.1, q.2.2.2.1, q.2.2.2.2.1, by simp [q.2.2.2.2.2]⟩
  have d1 : (be (tagNum p d v) 2 ++ m.take 400).drop 2 = m.take 400 := by rw [List.drop_left' (be_length _ _)]
  have d2 : (be (itagNum p' d' u' i') 4 ++ da ++ sa ++ m.take 400).drop 16 = m.take 400 := by rw [List.drop_left' (by simp [be_length, hok.2.1.2.2.2.2.1.1, hok.2.1.2.2.2.2.2.1.1])]
  have d3 : ((be (itagNum p' d' u' i') 4 ++ da ++ sa ++ m.take 400).drop 4).take 6 = da := by
    simp only [List.append_assoc]
    rw [List.drop_left' (be_length _ _), List.take_left' hok.2.1.2.2.2.2.1.1]
  have d4 : ((be (itagNum p' d' u' i') 4 ++ da ++ sa ++ m.take 400).drop 10).take 6 = sa := by
    rw [List.append_assoc, List.drop_left' (by simp [be_length, hok.2.1.2.2.2.2.1.1]), List.take_left' hok.2.1.2.2.2.2.2.1.1]
  have e1 : ((toD (AV.st [.int .i64 p, .bool d, .int .i64 v])).fld 0).int = p := rfl
  have e2 : ((toD (AV.st [.int .i64 p, .bool d, .int .i64 v])).fld (0 + 1)).bool = d := rfl
  have e3 : ((toD (AV.st [.int .i64 p, .bool d, .int .i64 v])).fld (0 + 1 + 1)).int = v := rfl
  have e4 : ((toD (AV.st [.int .i64 p', .bool d', .bool u', .int .i64 i', .arr 6 (.int .u8) da, .arr 6 (.int .u8) sa])).fld 0).int = p' := rfl
  have e5 : ((toD (AV.st [.int .i64 p', .bool d', .bool u', .int .i64 i', .arr 6 (.int .u8) da, .arr 6 (.int .u8) sa])).fld (0 + 1)).bool = d' := rfl
  have e6 : ((toD (AV.st [.int .i64 p', .bool d', .bool u', .int .i64 i', .arr 6 (.int .u8) da, .arr 6 (.int .u8) sa])).fld (0 + 1 + 1)).bool = u' := rfl
  have e7 : ((toD (AV.st [.int .i64 p', .bool d', .bool u', .int .i64 i', .arr 6 (.int .u8) da, .arr 6 (.int .u8) sa])).fld (0 + 1 + 1 + 1)).int = i' := rfl
  have e8 : ((toD (AV.st [.int .i64 p', .bool d', .bool u', .int .i64 i', .arr 6 (.int .u8) da, .arr 6 (.int .u8) sa])).fld (0 + 1 + 1 + 1 + 1)).fs = da := rfl
  have e9 : ((toD (AV.st [.int .i64 p', .bool d', .bool u', .int .i64 i', .arr 6 (.int .u8) da, .arr 6 (.int .u8) sa])).fld (0 + 1 + 1 + 1 + 1 + 1)).fs = sa := rfl
  refine st_seq (fun K1 hn1 he1 hr1 => ?_)
  repeat' (first
    | (with_reducible refine st_seq (fun K' hn he hr => ?_)) | (with_reducible refine st_block (fun K' hn he hr => ?_)) | (with_reducible refine st_region ?_) | (with_reducible refine st_draw ?_) | (with_reducible refine st_cond ?_) | (with_reducible refine st_skip ?_) | (with_reducible refine st_exit ?_) | (with_reducible refine st_ret ?_) | (with_reducible refine st_loop ?_)
    | (with_reducible refine st_op (fun G gn => ?_)) | (with_reducible refine st_nil ?_) | (with_reducible refine st_gop ?_) | (with_reducible refine st_dop (fun G gn => ?_)) | (with_reducible refine st_dnil ?_) | (with_reducible refine st_gdop ?_) | (with_reducible refine st_tl ?_)
    | (with_reducible refine gn _ _ ?_; clear gn G)
    | (with_reducible refine gn _ _ _ _ ?_; clear gn G)
    | (with_reducible refine Wr.mk ?_)
    | (with_reducible refine hn _ _ ?_; clear hn he hr K')
    | (with_reducible refine he _ _ _ ?_; clear hn he hr K')
    | (with_reducible refine hr _ _ ?_; clear hn he hr K')
    | ((with_reducible refine Eqn.mk (fun hq => ?_) ?_) <;> first | contradiction | skip)
    | (with_reducible refine Bo.yes (by decide) ?_)
    | (with_reducible refine Bo.no (by decide) ?_)
    | ((with_reducible refine Bo.gen (fun c hb => ?_)) <;> (try simp only [cond_true, cond_false, toD, toDs, dInt, dBool, dStr, dList, dFs, dFld, List.getD_cons_zero, List.getD_cons_succ, Nat.zero_add, eqA, eqAs, decide_true, decide_false, beq_self_eq_true, Bool.not_true, Bool.not_false, Bool.and_true, Bool.true_and, Bool.and_self, cmpI, ↓reduceIte, Bool.false_eq_true, reduceCtorEq, Int.reduceEq, Int.reduceLT, Int.reduceLE] at hb) <;> first | (obtain rfl : c = true := hb) | (obtain rfl : c = false := hb) | skip)
    | ((with_reducible refine Br.cs (fun hq => ?_) (fun hq => ?_)) <;> (try simp only [cond_true, cond_false, toD, toDs, dInt, dBool, dStr, dList, dFs, dFld, List.getD_cons_zero, List.getD_cons_succ, Nat.zero_add, eqA, eqAs, decide_true, decide_false, beq_self_eq_true, Bool.not_true, Bool.not_false, Bool.and_true, Bool.true_and, Bool.and_self, cmpI, ↓reduceIte, Bool.false_eq_true, reduceCtorEq, Int.reduceEq, Int.reduceLT, Int.reduceLE] at hq) <;> first | contradiction | subst hq | skip)
    | (with_reducible refine Nd.mk trivial ?_)
    | (with_reducible refine Nd.mk (by decide) ?_)
    | (with_reducible refine Nd.mk ?_ ?_)
    | (with_reducible refine Leaf.mk rfl ?_)
    | (with_reducible refine LeafS.fin rfl ?_)
    | (with_reducible refine Fin.mk ?_ rfl)
    | (with_reducible refine Fin.mk ?_ ?_)
    | ((with_reducible refine Nx.mk ?_ ?_ ?_ ?_) <;> first | rfl | skip)
    | (conv => whnf
       first
         | (with_reducible refine gn _ _ ?_; clear gn G)
         | (with_reducible refine gn _ _ _ _ ?_; clear gn G)
         | (with_reducible refine Wr.mk ?_)
         | (with_reducible refine hn _ _ ?_; clear hn he hr K')
         | (with_reducible refine he _ _ _ ?_; clear hn he hr K')
         | (with_reducible refine hr _ _ ?_; clear hn he hr K')
         | ((with_reducible refine Eqn.mk (fun hq => ?_) ?_) <;> first | contradiction | skip)
         | (with_reducible refine Bo.yes (by decide) ?_)
         | (with_reducible refine Bo.no (by decide) ?_)
         | ((with_reducible refine Bo.gen (fun c hb => ?_)) <;> (try simp only [cond_true, cond_false, toD, toDs, dInt, dBool, dStr, dList, dFs, dFld, List.getD_cons_zero, List.getD_cons_succ, Nat.zero_add, eqA, eqAs, decide_true, decide_false, beq_self_eq_true, Bool.not_true, Bool.not_false, Bool.and_true, Bool.true_and, Bool.and_self, cmpI, ↓reduceIte, Bool.false_eq_true, reduceCtorEq, Int.reduceEq, Int.reduceLT, Int.reduceLE] at hb) <;> first | (obtain rfl : c = true := hb) | (obtain rfl : c = false := hb) | skip)
         | ((with_reducible refine Br.cs (fun hq => ?_) (fun hq => ?_)) <;> (try simp only [cond_true, cond_false, toD, toDs, dInt, dBool, dStr, dList, dFs, dFld, List.getD_cons_zero, List.getD_cons_succ, Nat.zero_add, eqA, eqAs, decide_true, decide_false, beq_self_eq_true, Bool.not_true, Bool.not_false, Bool.and_true, Bool.true_and, Bool.and_self, cmpI, ↓reduceIte, Bool.false_eq_true, reduceCtorEq, Int.reduceEq, Int.reduceLT, Int.reduceLE] at hq) <;> first | contradiction | subst hq | skip)
         | (with_reducible refine Nd.mk trivial ?_)
         | (with_reducible refine Nd.mk (by decide) ?_)
         | (with_reducible refine Nd.mk ?_ ?_)
         | (with_reducible refine Leaf.mk rfl ?_)
         | (with_reducible refine LeafS.fin rfl ?_)
         | (with_reducible refine Fin.mk ?_ rfl)
         | (with_reducible refine Fin.mk ?_ ?_)
         | ((with_reducible refine Nx.mk ?_ ?_ ?_ ?_) <;> first | rfl | skip)))
  refine hn1 _ _ ?_
  clear hn1 he1 hr1 K1
  generalize toD (AV.st [.int .i64 p, .bool d, .int .i64 v]) = D1 at e1 e2 e3 ⊢
  generalize toD (AV.st [.int .i64 p', .bool d', .bool u', .int .i64 i', .arr 6 (.int .u8) da, .arr 6 (.int .u8) sa]) = D2 at e4 e5 e6 e7 e8 e9 ⊢
  have lda := hok.2.1.2.2.2.2.1.1
  have lsa := hok.2.1.2.2.2.2.2.1.1
  have b2 : decide ((b.take 400).length < 2) = false → be (ato (b.take 400) 0 * 256 + ato (b.take 400) 1) 2 ++ (b.take 400).drop 2 = b.take 400 := fun h => drop2 hb400 (by simpa using h)
  have b16 : decide ((b.take 400).length < 16) = false → decide (ato (b.take 400) 0 % 8 = 0) = true → be (itagNum (ato (b.take 400) 0 / 32) (decide (ato (b.take 400) 0 / 16 % 2 = 1)) (decide (ato (b.take 400) 0 / 8 % 2 = 1)) (ato (b.take 400) 1 * 65536 + ato (b.take 400) 2 * 256 + ato (b.take 400) 3)) 4 ++ ((b.take 400).drop 4).take 6 ++ ((b.take 400).drop 10).take 6 ++ (b.take 400).drop 16 = b.take 400 := fun h g => by
    rw [itagNum_back a0 (by simpa using g)]
    exact drop16 hb400 (by simpa using h)
  clear hok hb400 a0 a1 a2 a3
  obtain ⟨y1, y2, y3, y4, y5, y6⟩ := s2 h2
  clear s1 s2
  cases h3 : decide ((b.take 400).length < 2)
  · have b2 := b2 h3
    cases h4 : tagOK ((ato (b.take 400) 0 * 256 + ato (b.take 400) 1) / 8192) ((ato (b.take 400) 0 * 256 + ato (b.take 400) 1) % 4096)
    · cases h5 : decide ((b.take 400).length < 16)
      · cases h6 : decide (ato (b.take 400) 0 % 8 = 0)
        · clear b16
          repeat' (first
            | (with_reducible refine st_seq (fun K' hn he hr => ?_)) | (with_reducible refine st_block (fun K' hn he hr => ?_)) | (with_reducible refine st_region ?_) | (with_reducible refine st_draw ?_) | (with_reducible refine st_cond ?_) | (with_reducible refine st_skip ?_) | (with_reducible refine st_exit ?_) | (with_reducible refine st_ret ?_) | (with_reducible refine st_loop ?_)
            | (with_reducible refine st_op (fun G gn => ?_)) | (with_reducible refine st_nil ?_) | (with_reducible refine st_gop ?_) | (with_reducible refine st_dop (fun G gn => ?_)) | (with_reducible refine st_dnil ?_) | (with_reducible refine st_gdop ?_) | (with_reducible refine st_tl ?_)
            | (with_reducible refine gn _ _ ?_; clear gn G)
            | (with_reducible refine gn _ _ _ _ ?_; clear gn G)
            | (with_reducible refine Wr.mk ?_)
            | (with_reducible refine hn _ _ ?_; clear hn he hr K')
            | (with_reducible refine he _ _ _ ?_; clear hn he hr K')
            | (with_reducible refine hr _ _ ?_; clear hn he hr K')
            | ((with_reducible refine Eqn.mk (fun hq => ?_) ?_) <;> first | contradiction | skip)
            | (with_reducible refine Bo.yes (by decide) ?_)
            | (with_reducible refine Bo.no (by decide) ?_)
            | ((with_reducible refine Bo.gen (fun c hb => ?_)) <;> (try simp only [cond_true, cond_false, toD, toDs, dInt, dBool, dStr, dList, dFs, dFld, List.getD_cons_zero, List.getD_cons_succ, Nat.zero_add, eqA, eqAs, decide_true, decide_false, beq_self_eq_true, Bool.not_true, Bool.not_false, Bool.and_true, Bool.true_and, Bool.and_self, cmpI, ↓reduceIte, Bool.false_eq_true, reduceCtorEq, Int.reduceEq, Int.reduceLT, Int.reduceLE, h1, h2, e1, e2, e3, e4, e5, e6, e7, e8, e9, eqDn_int, d1, d2, d3, d4, List.nil_append, eq_self, Bool.true_eq_false, Bool.and_eq_true, Bool.not_eq_true, y1, y2, y3, y4, y5, y6, h3, h4, h5, h6, bN, b2] at hb) <;> first | (obtain rfl : c = true := hb) | (obtain rfl : c = false := hb) | skip)
            | ((with_reducible refine Br.cs (fun hq => ?_) (fun hq => ?_)) <;> (try simp only [cond_true, cond_false, toD, toDs, dInt, dBool, dStr, dList, dFs, dFld, List.getD_cons_zero, List.getD_cons_succ, Nat.zero_add, eqA, eqAs, decide_true, decide_false, beq_self_eq_true, Bool.not_true, Bool.not_false, Bool.and_true, Bool.true_and, Bool.and_self, cmpI, ↓reduceIte, Bool.false_eq_true, reduceCtorEq, Int.reduceEq, Int.reduceLT, Int.reduceLE, h1, h2, e1, e2, e3, e4, e5, e6, e7, e8, e9, eqDn_int, d1, d2, d3, d4, List.nil_append, eq_self, Bool.true_eq_false, Bool.and_eq_true, Bool.not_eq_true, y1, y2, y3, y4, y5, y6, h3, h4, h5, h6, bN, b2] at hq) <;> first | contradiction | subst hq | skip)
            | (with_reducible refine Nd.mk trivial ?_)
            | (with_reducible refine Nd.mk (by decide) ?_)
            | (with_reducible refine Nd.mk ?_ ?_)
            | (with_reducible refine Leaf.mk rfl ?_)
            | (with_reducible refine LeafS.fin rfl ?_)
            | (with_reducible refine Fin.mk ?_ rfl)
            | (with_reducible refine Fin.mk ?_ ?_)
            | ((with_reducible refine Nx.mk ?_ ?_ ?_ ?_) <;> first | rfl | skip)
            | (conv => whnf
               first
                 | (with_reducible refine gn _ _ ?_; clear gn G)
                 | (with_reducible refine gn _ _ _ _ ?_; clear gn G)
                 | (with_reducible refine Wr.mk ?_)
                 | (with_reducible refine hn _ _ ?_; clear hn he hr K')
                 | (with_reducible refine he _ _ _ ?_; clear hn he hr K')
                 | (with_reducible refine hr _ _ ?_; clear hn he hr K')
                 | ((with_reducible refine Eqn.mk (fun hq => ?_) ?_) <;> first | contradiction | skip)
                 | (with_reducible refine Bo.yes (by decide) ?_)
                 | (with_reducible refine Bo.no (by decide) ?_)
                 | ((with_reducible refine Bo.gen (fun c hb => ?_)) <;> (try simp only [cond_true, cond_false, toD, toDs, dInt, dBool, dStr, dList, dFs, dFld, List.getD_cons_zero, List.getD_cons_succ, Nat.zero_add, eqA, eqAs, decide_true, decide_false, beq_self_eq_true, Bool.not_true, Bool.not_false, Bool.and_true, Bool.true_and, Bool.and_self, cmpI, ↓reduceIte, Bool.false_eq_true, reduceCtorEq, Int.reduceEq, Int.reduceLT, Int.reduceLE, h1, h2, e1, e2, e3, e4, e5, e6, e7, e8, e9, eqDn_int, d1, d2, d3, d4, List.nil_append, eq_self, Bool.true_eq_false, Bool.and_eq_true, Bool.not_eq_true, y1, y2, y3, y4, y5, y6, h3, h4, h5, h6, bN, b2] at hb) <;> first | (obtain rfl : c = true := hb) | (obtain rfl : c = false := hb) | skip)
                 | ((with_reducible refine Br.cs (fun hq => ?_) (fun hq => ?_)) <;> (try simp only [cond_true, cond_false, toD, toDs, dInt, dBool, dStr, dList, dFs, dFld, List.getD_cons_zero, List.getD_cons_succ, Nat.zero_add, eqA, eqAs, decide_true, decide_false, beq_self_eq_true, Bool.not_true, Bool.not_false, Bool.and_true, Bool.true_and, Bool.and_self, cmpI, ↓reduceIte, Bool.false_eq_true, reduceCtorEq, Int.reduceEq, Int.reduceLT, Int.reduceLE, h1, h2, e1, e2, e3, e4, e5, e6, e7, e8, e9, eqDn_int, d1, d2, d3, d4, List.nil_append, eq_self, Bool.true_eq_false, Bool.and_eq_true, Bool.not_eq_true, y1, y2, y3, y4, y5, y6, h3, h4, h5, h6, bN, b2] at hq) <;> first | contradiction | subst hq | skip)
                 | (with_reducible refine Nd.mk trivial ?_)
                 | (with_reducible refine Nd.mk (by decide) ?_)
                 | (with_reducible refine Nd.mk ?_ ?_)
                 | (with_reducible refine Leaf.mk rfl ?_)
                 | (with_reducible refine LeafS.fin rfl ?_)
                 | (with_reducible refine Fin.mk ?_ rfl)
                 | (with_reducible refine Fin.mk ?_ ?_)
                 | ((with_reducible refine Nx.mk ?_ ?_ ?_ ?_) <;> first | rfl | skip)))
          all_goals try simp only [e1, e2, e3, e4, e5, e6, e7, e8, e9, bN, List.nil_append, List.length_append, List.length_drop, List.length_nil, be_length, lda, lsa]
          all_goals first | done | omega | (unfold roomy; omega) | (exact ⟨trivial, by unfold roomy; omega⟩) | (exact ⟨by simp only [decide_eq_false_iff_not] at h5; simp only [List.length_take, List.length_drop] at h5 ⊢; omega, by unfold roomy; simp only [List.length_take, List.length_drop]; omega⟩) | rfl | skip
        · have b16 := b16 h5 h6
          repeat' (first
            | (with_reducible refine st_seq (fun K' hn he hr => ?_)) | (with_reducible refine st_block (fun K' hn he hr => ?_)) | (with_reducible refine st_region ?_) | (with_reducible refine st_draw ?_) | (with_reducible refine st_cond ?_) | (with_reducible refine st_skip ?_) | (with_reducible refine st_exit ?_) | (with_reducible refine st_ret ?_) | (with_reducible refine st_loop ?_)
            | (with_reducible refine st_op (fun G gn => ?_)) | (with_reducible refine st_nil ?_) | (with_reducible refine st_gop ?_) | (with_reducible refine st_dop (fun G gn => ?_)) | (with_reducible refine st_dnil ?_) | (with_reducible refine st_gdop ?_) | (with_reducible refine st_tl ?_)
            | (with_reducible refine gn _ _ ?_; clear gn G)
            | (with_reducible refine gn _ _ _ _ ?_; clear gn G)
            | (with_reducible refine Wr.mk ?_)
            | (with_reducible refine hn _ _ ?_; clear hn he hr K')
            | (with_reducible refine he _ _ _ ?_; clear hn he hr K')
            | (with_reducible refine hr _ _ ?_; clear hn he hr K')
            | ((with_reducible refine Eqn.mk (fun hq => ?_) ?_) <;> first | contradiction | skip)
            | (with_reducible refine Bo.yes (by decide) ?_)
            | (with_reducible refine Bo.no (by decide) ?_)
            | ((with_reducible refine Bo.gen (fun c hb => ?_)) <;> (try simp only [cond_true, cond_false, toD, toDs, dInt, dBool, dStr, dList, dFs, dFld, List.getD_cons_zero, List.getD_cons_succ, Nat.zero_add, eqA, eqAs, decide_true, decide_false, beq_self_eq_true, Bool.not_true, Bool.not_false, Bool.and_true, Bool.true_and, Bool.and_self, cmpI, ↓reduceIte, Bool.false_eq_true, reduceCtorEq, Int.reduceEq, Int.reduceLT, Int.reduceLE, h1, h2, e1, e2, e3, e4, e5, e6, e7, e8, e9, eqDn_int, d1, d2, d3, d4, List.nil_append, eq_self, Bool.true_eq_false, Bool.and_eq_true, Bool.not_eq_true, y1, y2, y3, y4, y5, y6, h3, h4, h5, h6, bN, b2, b16, bJ] at hb) <;> first | (obtain rfl : c = true := hb) | (obtain rfl : c = false := hb) | skip)
            | ((with_reducible refine Br.cs (fun hq => ?_) (fun hq => ?_)) <;> (try simp only [cond_true, cond_false, toD, toDs, dInt, dBool, dStr, dList, dFs, dFld, List.getD_cons_zero, List.getD_cons_succ, Nat.zero_add, eqA, eqAs, decide_true, decide_false, beq_self_eq_true, Bool.not_true, Bool.not_false, Bool.and_true, Bool.true_and, Bool.and_self, cmpI, ↓reduceIte, Bool.false_eq_true, reduceCtorEq, Int.reduceEq, Int.reduceLT, Int.reduceLE, h1, h2, e1, e2, e3, e4, e5, e6, e7, e8, e9, eqDn_int, d1, d2, d3, d4, List.nil_append, eq_self, Bool.true_eq_false, Bool.and_eq_true, Bool.not_eq_true, y1, y2, y3, y4, y5, y6, h3, h4, h5, h6, bN, b2, b16, bJ] at hq) <;> first | contradiction | subst hq | skip)
            | (with_reducible refine Nd.mk trivial ?_)
            | (with_reducible refine Nd.mk (by decide) ?_)
            | (with_reducible refine Nd.mk ?_ ?_)
            | (with_reducible refine Leaf.mk rfl ?_)
            | (with_reducible refine LeafS.fin rfl ?_)
            | (with_reducible refine Fin.mk ?_ rfl)
            | (with_reducible refine Fin.mk ?_ ?_)
            | ((with_reducible refine Nx.mk ?_ ?_ ?_ ?_) <;> first | rfl | skip)
            | (conv => whnf
               first
                 | (with_reducible refine gn _ _ ?_; clear gn G)
                 | (with_reducible refine gn _ _ _ _ ?_; clear gn G)
                 | (with_reducible refine Wr.mk ?_)
                 | (with_reducible refine hn _ _ ?_; clear hn he hr K')
                 | (with_reducible refine he _ _ _ ?_; clear hn he hr K')
                 | (with_reducible refine hr _ _ ?_; clear hn he hr K')
                 | ((with_reducible refine Eqn.mk (fun hq => ?_) ?_) <;> first | contradiction | skip)
                 | (with_reducible refine Bo.yes (by decide) ?_)
                 | (with_reducible refine Bo.no (by decide) ?_)
                 | ((with_reducible refine Bo.gen (fun c hb => ?_)) <;> (try simp only [cond_true, cond_false, toD, toDs, dInt, dBool, dStr, dList, dFs, dFld, List.getD_cons_zero, List.getD_cons_succ, Nat.zero_add, eqA, eqAs, decide_true, decide_false, beq_self_eq_true, Bool.not_true, Bool.not_false, Bool.and_true, Bool.true_and, Bool.and_self, cmpI, ↓reduceIte, Bool.false_eq_true, reduceCtorEq, Int.reduceEq, Int.reduceLT, Int.reduceLE, h1, h2, e1, e2, e3, e4, e5, e6, e7, e8, e9, eqDn_int, d1, d2, d3, d4, List.nil_append, eq_self, Bool.true_eq_false, Bool.and_eq_true, Bool.not_eq_true, y1, y2, y3, y4, y5, y6, h3, h4, h5, h6, bN, b2, b16, bJ] at hb) <;> first | (obtain rfl : c = true := hb) | (obtain rfl : c = false := hb) | skip)
                 | ((with_reducible refine Br.cs (fun hq => ?_) (fun hq => ?_)) <;> (try simp only [cond_true, cond_false, toD, toDs, dInt, dBool, dStr, dList, dFs, dFld, List.getD_cons_zero, List.getD_cons_succ, Nat.zero_add, eqA, eqAs, decide_true, decide_false, beq_self_eq_true, Bool.not_true, Bool.not_false, Bool.and_true, Bool.true_and, Bool.and_self, cmpI, ↓reduceIte, Bool.false_eq_true, reduceCtorEq, Int.reduceEq, Int.reduceLT, Int.reduceLE, h1, h2, e1, e2, e3, e4, e5, e6, e7, e8, e9, eqDn_int, d1, d2, d3, d4, List.nil_append, eq_self, Bool.true_eq_false, Bool.and_eq_true, Bool.not_eq_true, y1, y2, y3, y4, y5, y6, h3, h4, h5, h6, bN, b2, b16, bJ] at hq) <;> first | contradiction | subst hq | skip)
                 | (with_reducible refine Nd.mk trivial ?_)
                 | (with_reducible refine Nd.mk (by decide) ?_)
                 | (with_reducible refine Nd.mk ?_ ?_)
                 | (with_reducible refine Leaf.mk rfl ?_)
                 | (with_reducible refine LeafS.fin rfl ?_)
                 | (with_reducible refine Fin.mk ?_ rfl)
                 | (with_reducible refine Fin.mk ?_ ?_)
                 | ((with_reducible refine Nx.mk ?_ ?_ ?_ ?_) <;> first | rfl | skip)))
          all_goals try simp only [e1, e2, e3, e4, e5, e6, e7, e8, e9, bN, List.nil_append, List.length_append, List.length_drop, List.length_nil, be_length, lda, lsa]
          all_goals first | done | omega | (unfold roomy; omega) | (exact ⟨trivial, by unfold roomy; omega⟩) | (exact ⟨by simp only [decide_eq_false_iff_not] at h5; simp only [List.length_take, List.length_drop] at h5 ⊢; omega, by unfold roomy; simp only [List.length_take, List.length_drop]; omega⟩) | rfl | skip
      · clear b16
        repeat' (first
          | (with_reducible refine st_seq (fun K' hn he hr => ?_)) | (with_reducible refine st_block (fun K' hn he hr => ?_)) | (with_reducible refine st_region ?_) | (with_reducible refine st_draw ?_) | (with_reducible refine st_cond ?_) | (with_reducible refine st_skip ?_) | (with_reducible refine st_exit ?_) | (with_reducible refine st_ret ?_) | (with_reducible refine st_loop ?_)
          | (with_reducible refine st_op (fun G gn => ?_)) | (with_reducible refine st_nil ?_) | (with_reducible refine st_gop ?_) | (with_reducible refine st_dop (fun G gn => ?_)) | (with_reducible refine st_dnil ?_) | (with_reducible refine st_gdop ?_) | (with_reducible refine st_tl ?_)
          | (with_reducible refine gn _ _ ?_; clear gn G)
          | (with_reducible refine gn _ _ _ _ ?_; clear gn G)
          | (with_reducible refine Wr.mk ?_)
          | (with_reducible refine hn _ _ ?_; clear hn he hr K')
          | (with_reducible refine he _ _ _ ?_; clear hn he hr K')
          | (with_reducible refine hr _ _ ?_; clear hn he hr K')
          | ((with_reducible refine Eqn.mk (fun hq => ?_) ?_) <;> first | contradiction | skip)
          | (with_reducible refine Bo.yes (by decide) ?_)
          | (with_reducible refine Bo.no (by decide) ?_)
          | ((with_reducible refine Bo.gen (fun c hb => ?_)) <;> (try simp only [cond_true, cond_false, toD, toDs, dInt, dBool, dStr, dList, dFs, dFld, List.getD_cons_zero, List.getD_cons_succ, Nat.zero_add, eqA, eqAs, decide_true, decide_false, beq_self_eq_true, Bool.not_true, Bool.not_false, Bool.and_true, Bool.true_and, Bool.and_self, cmpI, ↓reduceIte, Bool.false_eq_true, reduceCtorEq, Int.reduceEq, Int.reduceLT, Int.reduceLE, h1, h2, e1, e2, e3, e4, e5, e6, e7, e8, e9, eqDn_int, d1, d2, d3, d4, List.nil_append, eq_self, Bool.true_eq_false, Bool.and_eq_true, Bool.not_eq_true, y1, y2, y3, y4, y5, y6, h3, h4, h5, bN, b2] at hb) <;> first | (obtain rfl : c = true := hb) | (obtain rfl : c = false := hb) | skip)
          | ((with_reducible refine Br.cs (fun hq => ?_) (fun hq => ?_)) <;> (try simp only [cond_true, cond_false, toD, toDs, dInt, dBool, dStr, dList, dFs, dFld, List.getD_cons_zero, List.getD_cons_succ, Nat.zero_add, eqA, eqAs, decide_true, decide_false, beq_self_eq_true, Bool.not_true, Bool.not_false, Bool.and_true, Bool.true_and, Bool.and_self, cmpI, ↓reduceIte, Bool.false_eq_true, reduceCtorEq, Int.reduceEq, Int.reduceLT, Int.reduceLE, h1, h2, e1, e2, e3, e4, e5, e6, e7, e8, e9, eqDn_int, d1, d2, d3, d4, List.nil_append, eq_self, Bool.true_eq_false, Bool.and_eq_true, Bool.not_eq_true, y1, y2, y3, y4, y5, y6, h3, h4, h5, bN, b2] at hq) <;> first | contradiction | subst hq | skip)
          | (with_reducible refine Nd.mk trivial ?_)
          | (with_reducible refine Nd.mk (by decide) ?_)
          | (with_reducible refine Nd.mk ?_ ?_)
          | (with_reducible refine Leaf.mk rfl ?_)
          | (with_reducible refine LeafS.fin rfl ?_)
          | (with_reducible refine Fin.mk ?_ rfl)
          | (with_reducible refine Fin.mk ?_ ?_)
          | ((with_reducible refine Nx.mk ?_ ?_ ?_ ?_) <;> first | rfl | skip)
          | (conv => whnf
             first
               | (with_reducible refine gn _ _ ?_; clear gn G)
               | (with_reducible refine gn _ _ _ _ ?_; clear gn G)
               | (with_reducible refine Wr.mk ?_)
               | (with_reducible refine hn _ _ ?_; clear hn he hr K')
               | (with_reducible refine he _ _ _ ?_; clear hn he hr K')
               | (with_reducible refine hr _ _ ?_; clear hn he hr K')
               | ((with_reducible refine Eqn.mk (fun hq => ?_) ?_) <;> first | contradiction | skip)
               | (with_reducible refine Bo.yes (by decide) ?_)
               | (with_reducible refine Bo.no (by decide) ?_)
               | ((with_reducible refine Bo.gen (fun c hb => ?_)) <;> (try simp only [cond_true, cond_false, toD, toDs, dInt, dBool, dStr, dList, dFs, dFld, List.getD_cons_zero, List.getD_cons_succ, Nat.zero_add, eqA, eqAs, decide_true, decide_false, beq_self_eq_true, Bool.not_true, Bool.not_false, Bool.and_true, Bool.true_and, Bool.and_self, cmpI, ↓reduceIte, Bool.false_eq_true, reduceCtorEq, Int.reduceEq, Int.reduceLT, Int.reduceLE, h1, h2, e1, e2, e3, e4, e5, e6, e7, e8, e9, eqDn_int, d1, d2, d3, d4, List.nil_append, eq_self, Bool.true_eq_false, Bool.and_eq_true, Bool.not_eq_true, y1, y2, y3, y4, y5, y6, h3, h4, h5, bN, b2] at hb) <;> first | (obtain rfl : c = true := hb) | (obtain rfl : c = false := hb) | skip)
               | ((with_reducible refine Br.cs (fun hq => ?_) (fun hq => ?_)) <;> (try simp only [cond_true, cond_false, toD, toDs, dInt, dBool, dStr, dList, dFs, dFld, List.getD_cons_zero, List.getD_cons_succ, Nat.zero_add, eqA, eqAs, decide_true, decide_false, beq_self_eq_true, Bool.not_true, Bool.not_false, Bool.and_true, Bool.true_and, Bool.and_self, cmpI, ↓reduceIte, Bool.false_eq_true, reduceCtorEq, Int.reduceEq, Int.reduceLT, Int.reduceLE, h1, h2, e1, e2, e3, e4, e5, e6, e7, e8, e9, eqDn_int, d1, d2, d3, d4, List.nil_append, eq_self, Bool.true_eq_false, Bool.and_eq_true, Bool.not_eq_true, y1, y2, y3, y4, y5, y6, h3, h4, h5, bN, b2] at hq) <;> first | contradiction | subst hq | skip)
               | (with_reducible refine Nd.mk trivial ?_)
               | (with_reducible refine Nd.mk (by decide) ?_)
               | (with_reducible refine Nd.mk ?_ ?_)
               | (with_reducible refine Leaf.mk rfl ?_)
               | (with_reducible refine LeafS.fin rfl ?_)
               | (with_reducible refine Fin.mk ?_ rfl)
               | (with_reducible refine Fin.mk ?_ ?_)
               | ((with_reducible refine Nx.mk ?_ ?_ ?_ ?_) <;> first | rfl | skip)))
        all_goals try simp only [e1, e2, e3, e4, e5, e6, e7, e8, e9, bN, List.nil_append, List.length_append, List.length_drop, List.length_nil, be_length, lda, lsa]
        all_goals first | done | omega | (unfold roomy; omega) | (exact ⟨trivial, by unfold roomy; omega⟩) | (exact ⟨by simp only [decide_eq_false_iff_not] at h5; simp only [List.length_take, List.length_drop] at h5 ⊢; omega, by unfold roomy; simp only [List.length_take, List.length_drop]; omega⟩) | rfl | skip
    · cases h5 : decide ((b.take 400).length < 16)
      · cases h6 : decide (ato (b.take 400) 0 % 8 = 0)
        · clear b16
          repeat' (first
            | (with_reducible refine st_seq (fun K' hn he hr => ?_)) | (with_reducible refine st_block (fun K' hn he hr => ?_)) | (with_reducible refine st_region ?_) | (with_reducible refine st_draw ?_) | (with_reducible refine st_cond ?_) | (with_reducible refine st_skip ?_) | (with_reducible refine st_exit ?_) | (with_reducible refine st_ret ?_) | (with_reducible refine st_loop ?_)
            | (with_reducible refine st_op (fun G gn => ?_)) | (with_reducible refine st_nil ?_) | (with_reducible refine st_gop ?_) | (with_reducible refine st_dop (fun G gn => ?_)) | (with_reducible refine st_dnil ?_) | (with_reducible refine st_gdop ?_) | (with_reducible refine st_tl ?_)
            | (with_reducible refine gn _ _ ?_; clear gn G)
            | (with_reducible refine gn _ _ _ _ ?_; clear gn G)
            | (with_reducible refine Wr.mk ?_)
            | (with_reducible refine hn _ _ ?_; clear hn he hr K')
            | (with_reducible refine he _ _ _ ?_; clear hn he hr K')
            | (with_reducible refine hr _ _ ?_; clear hn he hr K')
            | ((with_reducible refine Eqn.mk (fun hq => ?_) ?_) <;> first | contradiction | skip)
            | (with_reducible refine Bo.yes (by decide) ?_)
            | (with_reducible refine Bo.no (by decide) ?_)
            | ((with_reducible refine Bo.gen (fun c hb => ?_)) <;> (try simp only [cond_true, cond_false, toD, toDs, dInt, dBool, dStr, dList, dFs, dFld, List.getD_cons_zero, List.getD_cons_succ, Nat.zero_add, eqA, eqAs, decide_true, decide_false, beq_self_eq_true, Bool.not_true, Bool.not_false, Bool.and_true, Bool.true_and, Bool.and_self, cmpI, ↓reduceIte, Bool.false_eq_true, reduceCtorEq, Int.reduceEq, Int.reduceLT, Int.reduceLE, h1, h2, e1, e2, e3, e4, e5, e6, e7, e8, e9, eqDn_int, d1, d2, d3, d4, List.nil_append, eq_self, Bool.true_eq_false, Bool.and_eq_true, Bool.not_eq_true, y1, y2, y3, y4, y5, y6, h3, h4, h5, h6, bN, b2] at hb) <;> first | (obtain rfl : c = true := hb) | (obtain rfl : c = false := hb) | skip)
            | ((with_reducible refine Br.cs (fun hq => ?_) (fun hq => ?_)) <;> (try simp only [cond_true, cond_false, toD, toDs, dInt, dBool, dStr, dList, dFs, dFld, List.getD_cons_zero, List.getD_cons_succ, Nat.zero_add, eqA, eqAs, decide_true, decide_false, beq_self_eq_true, Bool.not_true, Bool.not_false, Bool.and_true, Bool.true_and, Bool.and_self, cmpI, ↓reduceIte, Bool.false_eq_true, reduceCtorEq, Int.reduceEq, Int.reduceLT, Int.reduceLE, h1, h2, e1, e2, e3, e4, e5, e6, e7, e8, e9, eqDn_int, d1, d2, d3, d4, List.nil_append, eq_self, Bool.true_eq_false, Bool.and_eq_true, Bool.not_eq_true, y1, y2, y3, y4, y5, y6, h3, h4, h5, h6, bN, b2] at hq) <;> first | contradiction | subst hq | skip)
            | (with_reducible refine Nd.mk trivial ?_)
            | (with_reducible refine Nd.mk (by decide) ?_)
            | (with_reducible refine Nd.mk ?_ ?_)
            | (with_reducible refine Leaf.mk rfl ?_)
            | (with_reducible refine LeafS.fin rfl ?_)
            | (with_reducible refine Fin.mk ?_ rfl)
            | (with_reducible refine Fin.mk ?_ ?_)
            | ((with_reducible refine Nx.mk ?_ ?_ ?_ ?_) <;> first | rfl | skip)
            | (conv => whnf
               first
                 | (with_reducible refine gn _ _ ?_; clear gn G)
                 | (with_reducible refine gn _ _ _ _ ?_; clear gn G)
                 | (with_reducible refine Wr.mk ?_)
                 | (with_reducible refine hn _ _ ?_; clear hn he hr K')
                 | (with_reducible refine he _ _ _ ?_; clear hn he hr K')
                 | (with_reducible refine hr _ _ ?_; clear hn he hr K')
                 | ((with_reducible refine Eqn.mk (fun hq => ?_) ?_) <;> first | contradiction | skip)
                 | (with_reducible refine Bo.yes (by decide) ?_)
                 | (with_reducible refine Bo.no (by decide) ?_)
                 | ((with_reducible refine Bo.gen (fun c hb => ?_)) <;> (try simp only [cond_true, cond_false, toD, toDs, dInt, dBool, dStr, dList, dFs, dFld, List.getD_cons_zero, List.getD_cons_succ, Nat.zero_add, eqA, eqAs, decide_true, decide_false, beq_self_eq_true, Bool.not_true, Bool.not_false, Bool.and_true, Bool.true_and, Bool.and_self, cmpI, ↓reduceIte, Bool.false_eq_true, reduceCtorEq, Int.reduceEq, Int.reduceLT, Int.reduceLE, h1, h2, e1, e2, e3, e4, e5, e6, e7, e8, e9, eqDn_int, d1, d2, d3, d4, List.nil_append, eq_self, Bool.true_eq_false, Bool.and_eq_true, Bool.not_eq_true, y1, y2, y3, y4, y5, y6, h3, h4, h5, h6, bN, b2] at hb) <;> first | (obtain rfl : c = true := hb) | (obtain rfl : c = false := hb) | skip)
                 | ((with_reducible refine Br.cs (fun hq => ?_) (fun hq => ?_)) <;> (try simp only [cond_true, cond_false, toD, toDs, dInt, dBool, dStr, dList, dFs, dFld, List.getD_cons_zero, List.getD_cons_succ, Nat.zero_add, eqA, eqAs, decide_true, decide_false, beq_self_eq_true, Bool.not_true, Bool.not_false, Bool.and_true, Bool.true_and, Bool.and_self, cmpI, ↓reduceIte, Bool.false_eq_true, reduceCtorEq, Int.reduceEq, Int.reduceLT, Int.reduceLE, h1, h2, e1, e2, e3, e4, e5, e6, e7, e8, e9, eqDn_int, d1, d2, d3, d4, List.nil_append, eq_self, Bool.true_eq_false, Bool.and_eq_true, Bool.not_eq_true, y1, y2, y3, y4, y5, y6, h3, h4, h5, h6, bN, b2] at hq) <;> first | contradiction | subst hq | skip)
                 | (with_reducible refine Nd.mk trivial ?_)
                 | (with_reducible refine Nd.mk (by decide) ?_)
                 | (with_reducible refine Nd.mk ?_ ?_)
                 | (with_reducible refine Leaf.mk rfl ?_)
                 | (with_reducible refine LeafS.fin rfl ?_)
                 | (with_reducible refine Fin.mk ?_ rfl)
                 | (with_reducible refine Fin.mk ?_ ?_)
                 | ((with_reducible refine Nx.mk ?_ ?_ ?_ ?_) <;> first | rfl | skip)))
          all_goals try simp only [e1, e2, e3, e4, e5, e6, e7, e8, e9, bN, List.nil_append, List.length_append, List.length_drop, List.length_nil, be_length, lda, lsa]
          all_goals first | done | omega | (unfold roomy; omega) | (exact ⟨trivial, by unfold roomy; omega⟩) | (exact ⟨by simp only [decide_eq_false_iff_not] at h5; simp only [List.length_take, List.length_drop] at h5 ⊢; omega, by unfold roomy; simp only [List.length_take, List.length_drop]; omega⟩) | rfl | skip
        · have b16 := b16 h5 h6
          repeat' (first
            | (with_reducible refine st_seq (fun K' hn he hr => ?_)) | (with_reducible refine st_block (fun K' hn he hr => ?_)) | (with_reducible refine st_region ?_) | (with_reducible refine st_draw ?_) | (with_reducible refine st_cond ?_) | (with_reducible refine st_skip ?_) | (with_reducible refine st_exit ?_) | (with_reducible refine st_ret ?_) | (with_reducible refine st_loop ?_)
            | (with_reducible refine st_op (fun G gn => ?_)) | (with_reducible refine st_nil ?_) | (with_reducible refine st_gop ?_) | (with_reducible refine st_dop (fun G gn => ?_)) | (with_reducible refine st_dnil ?_) | (with_reducible refine st_gdop ?_) | (with_reducible refine st_tl ?_)
            | (with_reducible refine gn _ _ ?_; clear gn G)
            | (with_reducible refine gn _ _ _ _ ?_; clear gn G)
            | (with_reducible refine Wr.mk ?_)
            | (with_reducible refine hn _ _ ?_; clear hn he hr K')
            | (with_reducible refine he _ _ _ ?_; clear hn he hr K')
            | (with_reducible refine hr _ _ ?_; clear hn he hr K')
            | ((with_reducible refine Eqn.mk (fun hq => ?_) ?_) <;> first | contradiction | skip)
            | (with_reducible refine Bo.yes (by decide) ?_)
            | (with_reducible refine Bo.no (by decide) ?_)
            | ((with_reducible refine Bo.gen (fun c hb => ?_)) <;> (try simp only [cond_true, cond_false, toD, toDs, dInt, dBool, dStr, dList, dFs, dFld, List.getD_cons_zero, List.getD_cons_succ, Nat.zero_add, eqA, eqAs, decide_true, decide_false, beq_self_eq_true, Bool.not_true, Bool.not_false, Bool.and_true, Bool.true_and, Bool.and_self, cmpI, ↓reduceIte, Bool.false_eq_true, reduceCtorEq, Int.reduceEq, Int.reduceLT, Int.reduceLE, h1, h2, e1, e2, e3, e4, e5, e6, e7, e8, e9, eqDn_int, d1, d2, d3, d4, List.nil_append, eq_self, Bool.true_eq_false, Bool.and_eq_true, Bool.not_eq_true, y1, y2, y3, y4, y5, y6, h3, h4, h5, h6, bN, b2, b16, bJ] at hb) <;> first | (obtain rfl : c = true := hb) | (obtain rfl : c = false := hb) | skip)
            | ((with_reducible refine Br.cs (fun hq => ?_) (fun hq => ?_)) <;> (try simp only [cond_true, cond_false, toD, toDs, dInt, dBool, dStr, dList, dFs, dFld, List.getD_cons_zero, List.getD_cons_succ, Nat.zero_add, eqA, eqAs, decide_true, decide_false, beq_self_eq_true, Bool.not_true, Bool.not_false, Bool.and_true, Bool.true_and, Bool.and_self, cmpI, ↓reduceIte, Bool.false_eq_true, reduceCtorEq, Int.reduceEq, Int.reduceLT, Int.reduceLE, h1, h2, e1, e2, e3, e4, e5, e6, e7, e8, e9, eqDn_int, d1, d2, d3, d4, List.nil_append, eq_self, Bool.true_eq_false, Bool.and_eq_true, Bool.not_eq_true, y1, y2, y3, y4, y5, y6, h3, h4, h5, h6, bN, b2, b16, bJ] at hq) <;> first | contradiction | subst hq | skip)
            | (with_reducible refine Nd.mk trivial ?_)
            | (with_reducible refine Nd.mk (by decide) ?_)
            | (with_reducible refine Nd.mk ?_ ?_)
            | (with_reducible refine Leaf.mk rfl ?_)
            | (with_reducible refine LeafS.fin rfl ?_)
            | (with_reducible refine Fin.mk ?_ rfl)
            | (with_reducible refine Fin.mk ?_ ?_)
            | ((with_reducible refine Nx.mk ?_ ?_ ?_ ?_) <;> first | rfl | skip)
            | (conv => whnf
               first
                 | (with_reducible refine gn _ _ ?_; clear gn G)
                 | (with_reducible refine gn _ _ _ _ ?_; clear gn G)
                 | (with_reducible refine Wr.mk ?_)
                 | (with_reducible refine hn _ _ ?_; clear hn he hr K')
                 | (with_reducible refine he _ _ _ ?_; clear hn he hr K')
                 | (with_reducible refine hr _ _ ?_; clear hn he hr K')
                 | ((with_reducible refine Eqn.mk (fun hq => ?_) ?_) <;> first | contradiction | skip)
                 | (with_reducible refine Bo.yes (by decide) ?_)
                 | (with_reducible refine Bo.no (by decide) ?_)
                 | ((with_reducible refine Bo.gen (fun c hb => ?_)) <;> (try simp only [cond_true, cond_false, toD, toDs, dInt, dBool, dStr, dList, dFs, dFld, List.getD_cons_zero, List.getD_cons_succ, Nat.zero_add, eqA, eqAs, decide_true, decide_false, beq_self_eq_true, Bool.not_true, Bool.not_false, Bool.and_true, Bool.true_and, Bool.and_self, cmpI, ↓reduceIte, Bool.false_eq_true, reduceCtorEq, Int.reduceEq, Int.reduceLT, Int.reduceLE, h1, h2, e1, e2, e3, e4, e5, e6, e7, e8, e9, eqDn_int, d1, d2, d3, d4, List.nil_append, eq_self, Bool.true_eq_false, Bool.and_eq_true, Bool.not_eq_true, y1, y2, y3, y4, y5, y6, h3, h4, h5, h6, bN, b2, b16, bJ] at hb) <;> first | (obtain rfl : c = true := hb) | (obtain rfl : c = false := hb) | skip)
                 | ((with_reducible refine Br.cs (fun hq => ?_) (fun hq => ?_)) <;> (try simp only [cond_true, cond_false, toD, toDs, dInt, dBool, dStr, dList, dFs, dFld, List.getD_cons_zero, List.getD_cons_succ, Nat.zero_add, eqA, eqAs, decide_true, decide_false, beq_self_eq_true, Bool.not_true, Bool.not_false, Bool.and_true, Bool.true_and, Bool.and_self, cmpI, ↓reduceIte, Bool.false_eq_true, reduceCtorEq, Int.reduceEq, Int.reduceLT, Int.reduceLE, h1, h2, e1, e2, e3, e4, e5, e6, e7, e8, e9, eqDn_int, d1, d2, d3, d4, List.nil_append, eq_self, Bool.true_eq_false, Bool.and_eq_true, Bool.not_eq_true, y1, y2, y3, y4, y5, y6, h3, h4, h5, h6, bN, b2, b16, bJ] at hq) <;> first | contradiction | subst hq | skip)
                 | (with_reducible refine Nd.mk trivial ?_)
                 | (with_reducible refine Nd.mk (by decide) ?_)
                 | (with_reducible refine Nd.mk ?_ ?_)
                 | (with_reducible refine Leaf.mk rfl ?_)
                 | (with_reducible refine LeafS.fin rfl ?_)
                 | (with_reducible refine Fin.mk ?_ rfl)
                 | (with_reducible refine Fin.mk ?_ ?_)
                 | ((with_reducible refine Nx.mk ?_ ?_ ?_ ?_) <;> first | rfl | skip)))
          all_goals try simp only [e1, e2, e3, e4, e5, e6, e7, e8, e9, bN, List.nil_append, List.length_append, List.length_drop, List.length_nil, be_length, lda, lsa]
          all_goals first | done | omega | (unfold roomy; omega) | (exact ⟨trivial, by unfold roomy; omega⟩) | (exact ⟨by simp only [decide_eq_false_iff_not] at h5; simp only [List.length_take, List.length_drop] at h5 ⊢; omega, by unfold roomy; simp only [List.length_take, List.length_drop]; omega⟩) | rfl | skip
      · clear b16
        repeat' (first
          | (with_reducible refine st_seq (fun K' hn he hr => ?_)) | (with_reducible refine st_block (fun K' hn he hr => ?_)) | (with_reducible refine st_region ?_) | (with_reducible refine st_draw ?_) | (with_reducible refine st_cond ?_) | (with_reducible refine st_skip ?_) | (with_reducible refine st_exit ?_) | (with_reducible refine st_ret ?_) | (with_reducible refine st_loop ?_)
          | (with_reducible refine st_op (fun G gn => ?_)) | (with_reducible refine st_nil ?_) | (with_reducible refine st_gop ?_) | (with_reducible refine st_dop (fun G gn => ?_)) | (with_reducible refine st_dnil ?_) | (with_reducible refine st_gdop ?_) | (with_reducible refine st_tl ?_)
          | (with_reducible refine gn _ _ ?_; clear gn G)
          | (with_reducible refine gn _ _ _ _ ?_; clear gn G)
          | (with_reducible refine Wr.mk ?_)
          | (with_reducible refine hn _ _ ?_; clear hn he hr K')
          | (with_reducible refine he _ _ _ ?_; clear hn he hr K')
          | (with_reducible refine hr _ _ ?_; clear hn he hr K')
          | ((with_reducible refine Eqn.mk (fun hq => ?_) ?_) <;> first | contradiction | skip)
          | (with_reducible refine Bo.yes (by decide) ?_)
          | (with_reducible refine Bo.no (by decide) ?_)
          | ((with_reducible refine Bo.gen (fun c hb => ?_)) <;> (try simp only [cond_true, cond_false, toD, toDs, dInt, dBool, dStr, dList, dFs, dFld, List.getD_cons_zero, List.getD_cons_succ, Nat.zero_add, eqA, eqAs, decide_true, decide_false, beq_self_eq_true, Bool.not_true, Bool.not_false, Bool.and_true, Bool.true_and, Bool.and_self, cmpI, ↓reduceIte, Bool.false_eq_true, reduceCtorEq, Int.reduceEq, Int.reduceLT, Int.reduceLE, h1, h2, e1, e2, e3, e4, e5, e6, e7, e8, e9, eqDn_int, d1, d2, d3, d4, List.nil_append, eq_self, Bool.true_eq_false, Bool.and_eq_true, Bool.not_eq_true, y1, y2, y3, y4, y5, y6, h3, h4, h5, bN, b2] at hb) <;> first | (obtain rfl : c = true := hb) | (obtain rfl : c = false := hb) | skip)
          | ((with_reducible refine Br.cs (fun hq => ?_) (fun hq => ?_)) <;> (try simp only [cond_true, cond_false, toD, toDs, dInt, dBool, dStr, dList, dFs, dFld, List.getD_cons_zero, List.getD_cons_succ, Nat.zero_add, eqA, eqAs, decide_true, decide_false, beq_self_eq_true, Bool.not_true, Bool.not_false, Bool.and_true, Bool.true_and, Bool.and_self, cmpI, ↓reduceIte, Bool.false_eq_true, reduceCtorEq, Int.reduceEq, Int.reduceLT, Int.reduceLE, h1, h2, e1, e2, e3, e4, e5, e6, e7, e8, e9, eqDn_int, d1, d2, d3, d4, List.nil_append, eq_self, Bool.true_eq_false, Bool.and_eq_true, Bool.not_eq_true, y1, y2, y3, y4, y5, y6, h3, h4, h5, bN, b2] at hq) <;> first | contradiction | subst hq | skip)
          | (with_reducible refine Nd.mk trivial ?_)
          | (with_reducible refine Nd.mk (by decide) ?_)
          | (with_reducible refine Nd.mk ?_ ?_)
          | (with_reducible refine Leaf.mk rfl ?_)
          | (with_reducible refine LeafS.fin rfl ?_)
          | (with_reducible refine Fin.mk ?_ rfl)
          | (with_reducible refine Fin.mk ?_ ?_)
          | ((with_reducible refine Nx.mk ?_ ?_ ?_ ?_) <;> first | rfl | skip)
          | (conv => whnf
             first
               | (with_reducible refine gn _ _ ?_; clear gn G)
               | (with_reducible refine gn _ _ _ _ ?_; clear gn G)
               | (with_reducible refine Wr.mk ?_)
               | (with_reducible refine hn _ _ ?_; clear hn he hr K')
               | (with_reducible refine he _ _ _ ?_; clear hn he hr K')
               | (with_reducible refine hr _ _ ?_; clear hn he hr K')
               | ((with_reducible refine Eqn.mk (fun hq => ?_) ?_) <;> first | contradiction | skip)
               | (with_reducible refine Bo.yes (by decide) ?_)
               | (with_reducible refine Bo.no (by decide) ?_)
               | ((with_reducible refine Bo.gen (fun c hb => ?_)) <;> (try simp only [cond_true, cond_false, toD, toDs, dInt, dBool, dStr, dList, dFs, dFld, List.getD_cons_zero, List.getD_cons_succ, Nat.zero_add, eqA, eqAs, decide_true, decide_false, beq_self_eq_true, Bool.not_true, Bool.not_false, Bool.and_true, Bool.true_and, Bool.and_self, cmpI, ↓reduceIte, Bool.false_eq_true, reduceCtorEq, Int.reduceEq, Int.reduceLT, Int.reduceLE, h1, h2, e1, e2, e3, e4, e5, e6, e7, e8, e9, eqDn_int, d1, d2, d3, d4, List.nil_append, eq_self, Bool.true_eq_false, Bool.and_eq_true, Bool.not_eq_true, y1, y2, y3, y4, y5, y6, h3, h4, h5, bN, b2] at hb) <;> first | (obtain rfl : c = true := hb) | (obtain rfl : c = false := hb) | skip)
               | ((with_reducible refine Br.cs (fun hq => ?_) (fun hq => ?_)) <;> (try simp only [cond_true, cond_false, toD, toDs, dInt, dBool, dStr, dList, dFs, dFld, List.getD_cons_zero, List.getD_cons_succ, Nat.zero_add, eqA, eqAs, decide_true, decide_false, beq_self_eq_true, Bool.not_true, Bool.not_false, Bool.and_true, Bool.true_and, Bool.and_self, cmpI, ↓reduceIte, Bool.false_eq_true, reduceCtorEq, Int.reduceEq, Int.reduceLT, Int.reduceLE, h1, h2, e1, e2, e3, e4, e5, e6, e7, e8, e9, eqDn_int, d1, d2, d3, d4, List.nil_append, eq_self, Bool.true_eq_false, Bool.and_eq_true, Bool.not_eq_true, y1, y2, y3, y4, y5, y6, h3, h4, h5, bN, b2] at hq) <;> first | contradiction | subst hq | skip)
               | (with_reducible refine Nd.mk trivial ?_)
               | (with_reducible refine Nd.mk (by decide) ?_)
               | (with_reducible refine Nd.mk ?_ ?_)
               | (with_reducible refine Leaf.mk rfl ?_)
               | (with_reducible refine LeafS.fin rfl ?_)
               | (with_reducible refine Fin.mk ?_ rfl)
               | (with_reducible refine Fin.mk ?_ ?_)
               | ((with_reducible refine Nx.mk ?_ ?_ ?_ ?_) <;> first | rfl | skip)))
        all_goals try simp only [e1, e2, e3, e4, e5, e6, e7, e8, e9, bN, List.nil_append, List.length_append, List.length_drop, List.length_nil, be_length, lda, lsa]
        all_goals first | done | omega | (unfold roomy; omega) | (exact ⟨trivial, by unfold roomy; omega⟩) | (exact ⟨by simp only [decide_eq_false_iff_not] at h5; simp only [List.length_take, List.length_drop] at h5 ⊢; omega, by unfold roomy; simp only [List.length_take, List.length_drop]; omega⟩) | rfl | skip
  · have h5 : decide ((b.take 400).length < 16) = true := by simp only [decide_eq_true_eq] at h3 ⊢; omega
    clear b2 b16
    repeat' (first
      | (with_reducible refine st_seq (fun K' hn he hr => ?_)) | (with_reducible refine st_block (fun K' hn he hr => ?_)) | (with_reducible refine st_region ?_) | (with_reducible refine st_draw ?_) | (with_reducible refine st_cond ?_) | (with_reducible refine st_skip ?_) | (with_reducible refine st_exit ?_) | (with_reducible refine st_ret ?_) | (with_reducible refine st_loop ?_)
      | (with_reducible refine st_op (fun G gn => ?_)) | (with_reducible refine st_nil ?_) | (with_reducible refine st_gop ?_) | (with_reducible refine st_dop (fun G gn => ?_)) | (with_reducible refine st_dnil ?_) | (with_reducible refine st_gdop ?_) | (with_reducible refine st_tl ?_)
      | (with_reducible refine gn _ _ ?_; clear gn G)
      | (with_reducible refine gn _ _ _ _ ?_; clear gn G)
      | (with_reducible refine Wr.mk ?_)
      | (with_reducible refine hn _ _ ?_; clear hn he hr K')
      | (with_reducible refine he _ _ _ ?_; clear hn he hr K')
      | (with_reducible refine hr _ _ ?_; clear hn he hr K')
      | ((with_reducible refine Eqn.mk (fun hq => ?_) ?_) <;> first | contradiction | skip)
      | (with_reducible refine Bo.yes (by decide) ?_)
      | (with_reducible refine Bo.no (by decide) ?_)
      | ((with_reducible refine Bo.gen (fun c hb => ?_)) <;> (try simp only [cond_true, cond_false, toD, toDs, dInt, dBool, dStr, dList, dFs, dFld, List.getD_cons_zero, List.getD_cons_succ, Nat.zero_add, eqA, eqAs, decide_true, decide_false, beq_self_eq_true, Bool.not_true, Bool.not_false, Bool.and_true, Bool.true_and, Bool.and_self, cmpI, ↓reduceIte, Bool.false_eq_true, reduceCtorEq, Int.reduceEq, Int.reduceLT, Int.reduceLE, h1, h2, e1, e2, e3, e4, e5, e6, e7, e8, e9, eqDn_int, d1, d2, d3, d4, List.nil_append, eq_self, Bool.true_eq_false, Bool.and_eq_true, Bool.not_eq_true, y1, y2, y3, y4, y5, y6, h3, h5] at hb) <;> first | (obtain rfl : c = true := hb) | (obtain rfl : c = false := hb) | skip)
      | ((with_reducible refine Br.cs (fun hq => ?_) (fun hq => ?_)) <;> (try simp only [cond_true, cond_false, toD, toDs, dInt, dBool, dStr, dList, dFs, dFld, List.getD_cons_zero, List.getD_cons_succ, Nat.zero_add, eqA, eqAs, decide_true, decide_false, beq_self_eq_true, Bool.not_true, Bool.not_false, Bool.and_true, Bool.true_and, Bool.and_self, cmpI, ↓reduceIte, Bool.false_eq_true, reduceCtorEq, Int.reduceEq, Int.reduceLT, Int.reduceLE, h1, h2, e1, e2, e3, e4, e5, e6, e7, e8, e9, eqDn_int, d1, d2, d3, d4, List.nil_append, eq_self, Bool.true_eq_false, Bool.and_eq_true, Bool.not_eq_true, y1, y2, y3, y4, y5, y6, h3, h5] at hq) <;> first | contradiction | subst hq | skip)
      | (with_reducible refine Nd.mk trivial ?_)
      | (with_reducible refine Nd.mk (by decide) ?_)
      | (with_reducible refine Nd.mk ?_ ?_)
      | (with_reducible refine Leaf.mk rfl ?_)
      | (with_reducible refine LeafS.fin rfl ?_)
      | (with_reducible refine Fin.mk ?_ rfl)
      | (with_reducible refine Fin.mk ?_ ?_)
      | ((with_reducible refine Nx.mk ?_ ?_ ?_ ?_) <;> first | rfl | skip)
      | (conv => whnf
         first
           | (with_reducible refine gn _ _ ?_; clear gn G)
           | (with_reducible refine gn _ _ _ _ ?_; clear gn G)
           | (with_reducible refine Wr.mk ?_)
           | (with_reducible refine hn _ _ ?_; clear hn he hr K')
           | (with_reducible refine he _ _ _ ?_; clear hn he hr K')
           | (with_reducible refine hr _ _ ?_; clear hn he hr K')
           | ((with_reducible refine Eqn.mk (fun hq => ?_) ?_) <;> first | contradiction | skip)
           | (with_reducible refine Bo.yes (by decide) ?_)
           | (with_reducible refine Bo.no (by decide) ?_)
           | ((with_reducible refine Bo.gen (fun c hb => ?_)) <;> (try simp only [cond_true, cond_false, toD, toDs, dInt, dBool, dStr, dList, dFs, dFld, List.getD_cons_zero, List.getD_cons_succ, Nat.zero_add, eqA, eqAs, decide_true, decide_false, beq_self_eq_true, Bool.not_true, Bool.not_false, Bool.and_true, Bool.true_and, Bool.and_self, cmpI, ↓reduceIte, Bool.false_eq_true, reduceCtorEq, Int.reduceEq, Int.reduceLT, Int.reduceLE, h1, h2, e1, e2, e3, e4, e5, e6, e7, e8, e9, eqDn_int, d1, d2, d3, d4, List.nil_append, eq_self, Bool.true_eq_false, Bool.and_eq_true, Bool.not_eq_true, y1, y2, y3, y4, y5, y6, h3, h5] at hb) <;> first | (obtain rfl : c = true := hb) | (obtain rfl : c = false := hb) | skip)
           | ((with_reducible refine Br.cs (fun hq => ?_) (fun hq => ?_)) <;> (try simp only [cond_true, cond_false, toD, toDs, dInt, dBool, dStr, dList, dFs, dFld, List.getD_cons_zero, List.getD_cons_succ, Nat.zero_add, eqA, eqAs, decide_true, decide_false, beq_self_eq_true, Bool.not_true, Bool.not_false, Bool.and_true, Bool.true_and, Bool.and_self, cmpI, ↓reduceIte, Bool.false_eq_true, reduceCtorEq, Int.reduceEq, Int.reduceLT, Int.reduceLE, h1, h2, e1, e2, e3, e4, e5, e6, e7, e8, e9, eqDn_int, d1, d2, d3, d4, List.nil_append, eq_self, Bool.true_eq_false, Bool.and_eq_true, Bool.not_eq_true, y1, y2, y3, y4, y5, y6, h3, h5] at hq) <;> first | contradiction | subst hq | skip)
           | (with_reducible refine Nd.mk trivial ?_)
           | (with_reducible refine Nd.mk (by decide) ?_)
           | (with_reducible refine Nd.mk ?_ ?_)
           | (with_reducible refine Leaf.mk rfl ?_)
           | (with_reducible refine LeafS.fin rfl ?_)
           | (with_reducible refine Fin.mk ?_ rfl)
           | (with_reducible refine Fin.mk ?_ ?_)
           | ((with_reducible refine Nx.mk ?_ ?_ ?_ ?_) <;> first | rfl | skip)))
    all_goals try simp only [e1, e2, e3, e4, e5, e6, e7, e8, e9, bN, List.nil_append, List.length_append, List.length_drop, List.length_nil, be_length, lda, lsa]
    all_goals first | done | omega | (unfold roomy; omega) | (exact ⟨trivial, by unfold roomy; omega⟩) | (exact ⟨by simp only [decide_eq_false_iff_not] at h5; simp only [List.length_take, List.length_drop] at h5 ⊢; omega, by unfold roomy; simp only [List.length_take, List.length_drop]; omega⟩) | rfl | skip
end Go.Vc.Seat
