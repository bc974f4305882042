/- Steps of the symbolic walk whose side conditions are tried by themselves. -/
import Derived.Test.YtokdbmakkoleiaaGreatVb
set_option linter.unusedVariables false
namespace Go.Proofs.YtokdbmakkoleiaaGreat
namespace AI

theorem needA {p t : Prop} (k : t) (h : p := by first | with_reducible rfl | omega | rfl | decide | trivial | exact ⟨rfl, rfl, by omega, by omega⟩ | exact ⟨by omega, by omega, roomy_of (by omega)⟩ | (refine ⟨rfl, rfl, ?_⟩; first | ((first | rw [lI] | rw [lS] | rw [lB] | rw [lV]); omega) | (simp; done) | (simp; omega)) | (refine ⟨rfl, ?_⟩; first | ((first | rw [lI] | rw [lS] | rw [lB] | rw [lV]); omega) | (simp; done) | (simp; omega)) | exact ⟨by (try rw [lV]); omega, by (try rw [lV]); omega⟩) : need p t := ⟨h, k⟩
theorem wrapA {z : Int} {K : AV → Prop} (k : K (.int .i64 z)) (h1 : -2^63 ≤ z := by omega) (h2 : z < 2^63 := by omega) : wrapK .i64 z K := wrapK_intro (wrap_i64 h1 h2) k
theorem nthA {α : Type} {xs : List α} {i : Nat} {x : α} {K : α → Prop} (k : K x) (h : nth xs i = some x := by first | ((with_reducible first | refine nIN ?_ | refine nI ?_ | refine nSN ?_ | refine nS ?_ | refine nBN ?_ | refine nB ?_ | refine nYN ?_ | refine nY ?_ | refine nY0 ?_ | refine nVN ?_ | refine nV ?_); first | omega | (simp; omega)) | rfl) : nthK xs i K := ⟨x, h, k⟩
theorem getA {α : Type} {o : Option α} {K : α → Prop} {x : α} (k : K x) (h : o = some x := by rfl) : getK o K := ⟨x, h, k⟩
theorem eqA {α : Type} {a b : α} {K : α → Prop} (k : K b) (h : a = b := by first | (with_reducible first | exact lI _ | exact lS _ | exact lB _ | exact uI | exact uS | exact uIS | exact uSS | exact rIN _ _ | exact rI _ _ | exact tIN | exact tI | exact tBN | exact tB | exact uB | exact rBN _ _ | exact lV _ | exact uV | exact uVS) | rfl) : eqK a K := ⟨b, h, k⟩

end AI
end Go.Proofs.YtokdbmakkoleiaaGreat
