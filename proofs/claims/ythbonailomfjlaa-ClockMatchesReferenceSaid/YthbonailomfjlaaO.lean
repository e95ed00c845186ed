import Derived.Test.YthbonailomfjlaaTy
import Derived.Test.YthbonailomfjlaaEngO
namespace Go.Proofs.Ythbonailomfjlaa
open Go Go.Eng
theorem op_3 : Opn Try.prog 3 eI okI := Op_int Try.underlying3
theorem op1_3 : Opn1 Try.prog 3 eI := .inr ⟨by rfl, fun _ => ⟨rfl, rfl⟩⟩
theorem opv_3 : OpV Try.prog 3 eI okI := OpV_of op_3 op1_3 fun _ => one_int Try.underlying3
def okTReading (x : TReading) : Prop := okI x.Local ∧ okI x.Low ∧ okI x.High
theorem op_50 : Opn Try.prog 50 eTReading okTReading := by
  refine Op_struct (β := Int × Int × Int × Unit) (fs := [(3, 0), (3, 1), (3, 2)]) Try.underlying50 rfl (by kernel_rfl) (OpFs_cons (sz := 1) op_3 (by kernel_rfl) rfl (OpFs_cons (sz := 1) op_3 (by kernel_rfl) rfl (OpFs_cons (sz := 1) op_3 (by kernel_rfl) rfl OpFs_nil))) (fun p => ⟨p.1, p.2.1, p.2.2.1⟩) (fun _ => rfl) ?_
  intro p h
  exact ⟨h.1, h.2.1, h.2.2.1⟩
theorem op1_50 : Opn1 Try.prog 50 eTReading := .inl ⟨by rfl, fun _ => rfl⟩
theorem opv_50 : OpV Try.prog 50 eTReading okTReading := OpV_of op_50 op1_50 (fun h => by cases (show some true = some false from h))
theorem op_22 : Opn Try.prog 22 (eL 3 eTReading default) (okL okTReading) := Op_slice Try.underlying22 (by kernel_rfl) (by decide) op_50 op1_50
theorem op1_22 : Opn1 Try.prog 22 (eL 3 eTReading default) := .inr ⟨by rfl, fun _ => ⟨rfl, rfl⟩⟩
theorem opv_22 : OpV Try.prog 22 (eL 3 eTReading default) (okL okTReading) := OpV_of op_22 op1_22 fun _ => one_slice Try.underlying22
def okTClock (x : TClock) : Prop := okI x.Drift ∧ (okL okTReading) x.Readings
theorem op_24 : Opn Try.prog 24 eTClock okTClock := by
  refine Op_struct (β := Int × (List TReading) × Unit) (fs := [(3, 0), (22, 1)]) Try.underlying24 rfl (by kernel_rfl) (OpFs_cons (sz := 1) op_3 (by kernel_rfl) rfl (OpFs_cons (sz := 1) op_22 (by kernel_rfl) rfl OpFs_nil)) (fun p => ⟨p.1, p.2.1⟩) (fun _ => rfl) ?_
  intro p h
  exact ⟨h.1, h.2.1⟩
theorem op1_24 : Opn1 Try.prog 24 eTClock := .inl ⟨by rfl, fun _ => rfl⟩
theorem opv_24 : OpV Try.prog 24 eTClock okTClock := OpV_of op_24 op1_24 (fun h => by cases (show some true = some false from h))
theorem op_25 : Opn Try.prog 25 (eL 1 eI default) (okL okI) := Op_slice Try.underlying25 (by kernel_rfl) (by decide) op_3 op1_3
theorem op1_25 : Opn1 Try.prog 25 (eL 1 eI default) := .inr ⟨by rfl, fun _ => ⟨rfl, rfl⟩⟩
theorem opv_25 : OpV Try.prog 25 (eL 1 eI default) (okL okI) := OpV_of op_25 op1_25 fun _ => one_slice Try.underlying25
def okA60 (x : Int × Int × Int) : Prop := okI x.1 ∧ okI x.2.1 ∧ okI x.2.2
theorem op_60 : Opn Try.prog 60 eA60 okA60 := by
  refine Op_array (β := Int × Int × Int × Unit) (fs := [(3, 0), (3, 1), (3, 2)]) Try.underlying60 (by kernel_rfl) (by kernel_rfl) (OpFs_cons (sz := 1) op_3 (by kernel_rfl) rfl (OpFs_cons (sz := 1) op_3 (by kernel_rfl) rfl (OpFs_cons (sz := 1) op_3 (by kernel_rfl) rfl OpFs_nil))) (fun p => (p.1, p.2.1, p.2.2.1)) (fun _ => rfl) ?_
  intro p h
  exact ⟨h.1, h.2.1, h.2.2.1⟩
theorem op1_60 : Opn1 Try.prog 60 eA60 := .inl ⟨by rfl, fun _ => rfl⟩
theorem opv_60 : OpV Try.prog 60 eA60 okA60 := OpV_of op_60 op1_60 (fun h => by cases (show some true = some false from h))
theorem op_26 : Opn Try.prog 26 (eL 3 eA60 default) (okL okA60) := Op_slice Try.underlying26 (by kernel_rfl) (by decide) op_60 op1_60
theorem op1_26 : Opn1 Try.prog 26 (eL 3 eA60 default) := .inr ⟨by rfl, fun _ => ⟨rfl, rfl⟩⟩
theorem opv_26 : OpV Try.prog 26 (eL 3 eA60 default) (okL okA60) := OpV_of op_26 op1_26 fun _ => one_slice Try.underlying26
def okTSpell (x : TSpell) : Prop := okI x.From ∧ okI x.To
theorem op_32 : Opn Try.prog 32 eTSpell okTSpell := by
  refine Op_struct (β := Int × Int × Unit) (fs := [(3, 0), (3, 1)]) Try.underlying32 rfl (by kernel_rfl) (OpFs_cons (sz := 1) op_3 (by kernel_rfl) rfl (OpFs_cons (sz := 1) op_3 (by kernel_rfl) rfl OpFs_nil)) (fun p => ⟨p.1, p.2.1⟩) (fun _ => rfl) ?_
  intro p h
  exact ⟨h.1, h.2.1⟩
theorem op1_32 : Opn1 Try.prog 32 eTSpell := .inl ⟨by rfl, fun _ => rfl⟩
theorem opv_32 : OpV Try.prog 32 eTSpell okTSpell := OpV_of op_32 op1_32 (fun h => by cases (show some true = some false from h))
theorem op_27 : Opn Try.prog 27 (eL 2 eTSpell default) (okL okTSpell) := Op_slice Try.underlying27 (by kernel_rfl) (by decide) op_32 op1_32
theorem op1_27 : Opn1 Try.prog 27 (eL 2 eTSpell default) := .inr ⟨by rfl, fun _ => ⟨rfl, rfl⟩⟩
theorem opv_27 : OpV Try.prog 27 (eL 2 eTSpell default) (okL okTSpell) := OpV_of op_27 op1_27 fun _ => one_slice Try.underlying27
def okA48 (x : Int × Int) : Prop := okI x.1 ∧ okI x.2
theorem op_48 : Opn Try.prog 48 eA48 okA48 := by
  refine Op_array (β := Int × Int × Unit) (fs := [(3, 0), (3, 1)]) Try.underlying48 (by kernel_rfl) (by kernel_rfl) (OpFs_cons (sz := 1) op_3 (by kernel_rfl) rfl (OpFs_cons (sz := 1) op_3 (by kernel_rfl) rfl OpFs_nil)) (fun p => (p.1, p.2.1)) (fun _ => rfl) ?_
  intro p h
  exact ⟨h.1, h.2.1⟩
theorem op1_48 : Opn1 Try.prog 48 eA48 := .inl ⟨by rfl, fun _ => rfl⟩
theorem opv_48 : OpV Try.prog 48 eA48 okA48 := OpV_of op_48 op1_48 (fun h => by cases (show some true = some false from h))
end Go.Proofs.Ythbonailomfjlaa
