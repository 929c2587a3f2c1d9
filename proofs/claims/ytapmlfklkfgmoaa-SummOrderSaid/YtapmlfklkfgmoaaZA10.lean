/- Chapter 2: what the rows read of their arguments. -/
import Derived.Test.YtapmlfklkfgmoaaZA9
import Derived.Test.YtapmlfklkfgmoaaZSxOpen
set_option linter.unusedVariables false
namespace Go.Proofs.Ytapmlfklkfgmoaa
open Go.RowKit Go.Sx

def W1 (n : Int) : Prop := (Lit.int .i64 n).wf = true
def W4 (a : I4) : Prop := W1 a.1 ∧ W1 a.2.1 ∧ W1 a.2.2.1 ∧ W1 a.2.2.2
def W8 (a : I8) : Prop := W1 a.1 ∧ W1 a.2.1 ∧ W1 a.2.2.1 ∧ W1 a.2.2.2.1 ∧ W4 a.2.2.2.2
def W6 (a : I6) : Prop := W1 a.1 ∧ W1 a.2.1 ∧ W4 a.2.2
def S.W (s : S) : Prop := W8 s.toP
def T.W (t : T) : Prop := W6 t.toP
theorem rd2 : Rd Try.prog 2 eI W1 := rd_int Try.underlying2
theorem rd3 : Rd Try.prog 3 eI W1 := rd_int Try.underlying3
theorem rd22 : Rd Try.prog 22 e4 W4 := rd_array (ts := [2, 2, 2, 2]) Try.underlying22 rfl (by kernel_rfl) (rds_cons rd2 (rds_cons rd2 (rds_cons rd2 (rds_one rd2))))
theorem rd24 : Rd Try.prog 24 eS S.W := rd_iso (Q := W8) (rd_struct (ts := [3, 3, 2, 3, 22]) Try.underlying24 rfl (by kernel_rfl) (rds_cons rd3 (rds_cons rd3 (rds_cons rd2 (rds_cons rd3 (rds_one rd22)))))) _ _ _ _
theorem rd26 : Rd Try.prog 26 eT T.W := rd_iso (Q := W6) (rd_struct (ts := [2, 3, 22]) Try.underlying26 rfl (by kernel_rfl) (rds_cons rd2 (rds_cons rd3 (rds_one rd22)))) _ _ _ _
theorem rdvI : RdV Try.prog 3 dI W1 := rdv_int Try.underlying3
theorem rdvU : RdV Try.prog 5 (dInt .u8) (fun n => (Lit.int .u8 n).wf = true) := rdv_int Try.underlying5
theorem rdvS : RdV Try.prog 24 dS S.W := rdv_struct Try.underlying24 rd24
theorem rdvT : RdV Try.prog 26 dT T.W := rdv_struct Try.underlying26 rd26
theorem rdvLS : RdV Try.prog 27 dLS (fun l => ∀ s ∈ l, S.W s) := rdv_slice Try.underlying27 (by kernel_rfl) (by decide) rd24
end Go.Proofs.Ytapmlfklkfgmoaa
