import Derived.Test.YtcidmnpihffphaaTy
import Derived.Test.YtcidmnpihffphaaEngO
namespace Go.Proofs.Ytcidmnpihffphaa
open Go Go.Eng
set_option maxRecDepth 100000
theorem op_3 : Opn Try.prog 3 eI okI := Op_int Try.underlying3
theorem op1_3 : Opn1 Try.prog 3 eI := .inr ⟨by rfl, fun _ => ⟨rfl, rfl⟩⟩
theorem opv_3 : OpV Try.prog 3 eI okI := OpV_of op_3 op1_3 fun _ => one_int Try.underlying3
def okA71 (x : Int × Int) : Prop := okI x.1 ∧ okI x.2
theorem op_71 : Opn Try.prog 71 eA71 okA71 := by
  refine Op_array (β := Int × Int × Unit) (fs := [(3, 0), (3, 1)]) Try.underlying71 (by kernel_rfl) (by kernel_rfl) (OpFs_cons (sz := 1) op_3 (by kernel_rfl) rfl (OpFs_cons (sz := 1) op_3 (by kernel_rfl) rfl OpFs_nil)) (fun p => (p.1, p.2.1)) (fun _ => rfl) ?_
  intro p h
  exact ⟨h.1, h.2.1⟩
theorem op1_71 : Opn1 Try.prog 71 eA71 := .inl ⟨by rfl, fun _ => rfl⟩
theorem opv_71 : OpV Try.prog 71 eA71 okA71 := OpV_of op_71 op1_71 (fun h => by cases (show some true = some false from h))
theorem op_22 : Opn Try.prog 22 (eL 2 eA71 default) (okL okA71) := Op_slice Try.underlying22 (by kernel_rfl) (by decide) op_71 op1_71
theorem op1_22 : Opn1 Try.prog 22 (eL 2 eA71 default) := .inr ⟨by rfl, fun _ => ⟨rfl, rfl⟩⟩
theorem opv_22 : OpV Try.prog 22 (eL 2 eA71 default) (okL okA71) := OpV_of op_22 op1_22 fun _ => one_slice Try.underlying22
def okA23 (x : Int × Int × Int) : Prop := okI x.1 ∧ okI x.2.1 ∧ okI x.2.2
theorem op_23 : Opn Try.prog 23 eA23 okA23 := by
  refine Op_array (β := Int × Int × Int × Unit) (fs := [(3, 0), (3, 1), (3, 2)]) Try.underlying23 (by kernel_rfl) (by kernel_rfl) (OpFs_cons (sz := 1) op_3 (by kernel_rfl) rfl (OpFs_cons (sz := 1) op_3 (by kernel_rfl) rfl (OpFs_cons (sz := 1) op_3 (by kernel_rfl) rfl OpFs_nil))) (fun p => (p.1, p.2.1, p.2.2.1)) (fun _ => rfl) ?_
  intro p h
  exact ⟨h.1, h.2.1, h.2.2.1⟩
theorem op1_23 : Opn1 Try.prog 23 eA23 := .inl ⟨by rfl, fun _ => rfl⟩
theorem opv_23 : OpV Try.prog 23 eA23 okA23 := OpV_of op_23 op1_23 (fun h => by cases (show some true = some false from h))
theorem op_47 : Opn Try.prog 47 (eL 1 eI default) (okL okI) := Op_slice Try.underlying47 (by kernel_rfl) (by decide) op_3 op1_3
theorem op1_47 : Opn1 Try.prog 47 (eL 1 eI default) := .inr ⟨by rfl, fun _ => ⟨rfl, rfl⟩⟩
theorem opv_47 : OpV Try.prog 47 (eL 1 eI default) (okL okI) := OpV_of op_47 op1_47 fun _ => one_slice Try.underlying47
end Go.Proofs.Ytcidmnpihffphaa
