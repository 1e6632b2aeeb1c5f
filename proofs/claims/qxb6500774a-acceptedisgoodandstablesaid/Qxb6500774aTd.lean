import Derived.Test.Qxb6500774aTd1
import Derived.Test.Qxb6500774aTd2
import Derived.Test.Qxb6500774aTd3
import Derived.Test.Qxb6500774aTd4
import Derived.Test.Qxb6500774aTd5
namespace Go.Proofs.Qxb6500774a
open Go.RowKit
set_option linter.unusedVariables false
set_option linter.unusedSimpArgs false

theorem pexpr_any : ∀ (e : E), gE e → PEX e := by
  intro e
  induction e with
  | num v l c => intro hg w b X i be f min hpr het hl hm0 hm8; exact px_num v l c hg w b X i be f min hpr het hl hm0 hm8
  | tim v l c => intro hg w b X i be f min hpr het hl hm0 hm8; exact px_tim v l c hg w b X i be f min hpr het hl hm0 hm8
  | bol v l c =>
    intro hg w b X i be f min hpr het hl hm0 hm8
    rcases hg with rfl | rfl
    · exact px_fal l c w b X i be f min hpr het hl hm0 hm8
    · exact px_tru l c w b X i be f min hpr het hl hm0 hm8
  | nm x l c => intro hg w b X i be f min hpr het hl hm0 hm8; exact px_nm x l c w b X i be f min hpr het hl hm0 hm8
  | fld e x l c ih => intro hg w b X i be f min hpr het hl hm0 hm8; exact px_fld e x l c (ih hg.1) w b X i be f min hpr het hl hm0 hm8
  | idx e j l c ih ih2 => intro hg w b X i be f min hpr het hl hm0 hm8; exact px_idx e j l c (ih hg.1) (ih2 hg.2.1) w b X i be f min hpr het hl hm0 hm8
  | un op e l c ih =>
    intro hg w b X i be f min hpr het hl hm0 hm8
    rcases hg.2 with rfl | rfl
    · exact px_not e l c (ih hg.1) w b X i be f min hpr het hl hm0 hm8
    · exact px_min e l c (ih hg.1) w b X i be f min hpr het hl hm0 hm8
  | bin op e j l c ih ih2 =>
    intro hg w b X i be f min hpr het hl hm0 hm8
    by_cases hpm : powP op.toList < min
    · exact px_binp op e j l c (ih hg.1) (ih2 hg.2.1) hg.2.2 w b X i be f min hpr het hl hm0 hm8 hpm
    · exact px_bin op e j l c (ih hg.1) (ih2 hg.2.1) hg.2.2 w b X i be f min hpr het hl hm0 hm8 hpm
end Go.Proofs.Qxb6500774a
