/- The ideal machine: what is known by hand, as an oracle. -/
import Derived.Test.YtalnancndjgmgaaGreatDoorImBas
import Derived.Test.YtalnancndjgmgaaGreatDoorImVal
namespace Go.Im
set_option linter.unusedVariables false
/-- Nothing is known. -/
def basNo : Orc := fun _ _ _ => none
theorem basNo_ok {P : Program} : OrcOk P basNo := fun _ _ _ _ _ h => by cases h
def basIndexByte : Orc := basOne 104 fun a => match a with | [.str s b, .int s' .u8 c] => (E.IndexByte b c).map (.int (s || s') .i64) | _ => none
theorem basIndexByte_ok : OrcOk Go.Proofs.Tryz.prog basIndexByte := basOne_ok fun a v h => by
  split at h
  · obtain ⟨r, hr, rfl⟩ := Option.map_eq_some_iff.1 h; exact E.IndexByte_sim hr _ _ _
  · cases h
def basHasPrefix : Orc := basOne 114 fun a => match a with | [.str s b, .str s' c] => some (.bool (s || s') (E.HasPrefix b c)) | _ => none
theorem basHasPrefix_ok : OrcOk Go.Proofs.Tryz.prog basHasPrefix := basOne_ok fun a v h => by
  split at h
  · cases h; exact E.HasPrefix_sim _ _ _ _ _
  · cases h
def basFormatInt : Orc := basOne 96 fun a => match a with | [.int s .i64 n, .int _ .i64 10] => some (.str s (E.FormatInt n)) | _ => none
theorem basFormatInt_ok : OrcOk Go.Proofs.Tryz.prog basFormatInt := basOne_ok fun a v h => by
  split at h
  · cases h; exact E.FormatInt_sim _ _ _ _
  · cases h
def basItoa : Orc := basOne 154 fun a => match a with | [.int s .i64 n] => some (.str s (E.FormatInt n)) | _ => none
theorem basItoa_ok : OrcOk Go.Proofs.Tryz.prog basItoa := basOne_ok fun a v h => by
  split at h
  · cases h; exact E.Itoa_sim _ _ _
  · cases h
def basValue : Orc := basOne 112 fun a => match a with | [.str s b, .int s' .u64 n] => (E.value b n).map (fun r => .tup [.int (s || s') .u64 r.1, .bool (s || s') r.2]) | _ => none
theorem basValue_ok : OrcOk Go.Proofs.Tryz.prog basValue := basOne_ok fun a v h => by
  split at h
  · obtain ⟨r, hr, rfl⟩ := Option.map_eq_some_iff.1 h; exact E.value_sim hr _ _ _ _
  · cases h
/-- The library's functions, of what is told. -/
def bas : Orc :=
  basOr basIndexByte <|
  basOr basHasPrefix <|
  basOr basFormatInt <|
  basOr basItoa <|
  basOr basValue <|
  basNo
theorem bas_ok : OrcOk Go.Proofs.Tryz.prog bas :=
  basOr_ok basIndexByte_ok <|
  basOr_ok basHasPrefix_ok <|
  basOr_ok basFormatInt_ok <|
  basOr_ok basItoa_ok <|
  basOr_ok basValue_ok <|
  basNo_ok
end Go.Im
