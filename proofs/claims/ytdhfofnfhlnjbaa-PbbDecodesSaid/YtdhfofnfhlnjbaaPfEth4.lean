/- A part of the proof of the seat's laws: PfEth4. It states no claim by itself. -/
import Derived.Test.YtdhfofnfhlnjbaaPfEth3
set_option linter.unusedVariables false
set_option linter.unusedSimpArgs false
namespace Go.Vc.Seat
open Go.Vc Go.Proofs.Try
theorem bytes_inj : ∀ (xs ys : List D), (∀ x ∈ xs, okD (.int .u8) x) → (∀ x ∈ ys, okD (.int .u8) x) → xs.map (fun d => UInt8.ofNat d.int.toNat) = ys.map (fun d => UInt8.ofNat d.int.toNat) → xs = ys
  | [], [], _, _, _ => rfl
  | [], _ :: _, _, _, h => by simp at h
  | _ :: _, [], _, _, h => by simp at h
  | x :: xs, y :: ys, hx, hy, h => by
    simp only [List.map_cons, List.cons.injEq] at h
    have h1 := hx x (by simp)
    have h2 := hy y (by simp)
    have b1 : 0 ≤ x.int ∧ x.int ≤ 255 := ato_le hx 0
    have b2 : 0 ≤ y.int ∧ y.int ≤ 255 := ato_le hy 0
    have e : x.int = y.int := by
      have := congrArg UInt8.toNat h.1
      simp only [UInt8.toNat_ofNat'] at this
      omega
    rw [h1.2, h2.2, e, bytes_inj xs ys (fun z hz => hx z (by simp [hz])) (fun z hz => hy z (by simp [hz])) h.2]
theorem sameB_iff {xs ys : List D} (hx : ∀ x ∈ xs, okD (.int .u8) x) (hy : ∀ x ∈ ys, okD (.int .u8) x) : sameB xs ys = true ↔ xs = ys := by
  unfold sameB
  rw [decide_eq_true_eq]
  constructor
  · intro h
    refine bytes_inj xs ys hx hy ?_
    have := congrArg (fun b => b.data.toList) h
    simpa [bytesOf] using this
  · intro h; rw [h]
theorem sameB_self (xs : List D) : sameB xs xs = true := by simp [sameB]
end Go.Vc.Seat
