/- Printed contracts (by wip/gen). -/
import Derived.Test.YtfkfbjhegiffhaaGreatDoorTrA4
set_option linter.unusedVariables false
set_option linter.unusedSimpArgs false
set_option maxRecDepth 100000
set_option maxHeartbeats 4000000
namespace Go.Im
mutual
def S.tree_SameStmts : Nat → (List TreeStmt) → (List TreeStmt) → Option (Bool)
  | 0,_,_ => none
  | n + 1,a0,a1 => ((S.slices_EqualFunc_TreeStmt_tree_Stmt_same n (a0) (a1)).bind fun x0 => (some (x0)))
def S.tree_Stmt_same : Nat → TreeStmt → TreeStmt → Option (Bool)
  | 0,_,_ => none
  | n + 1,a0,a1 => (bif TreeStmt.Kind a0 == TreeStmt.Kind a1 then (bif TreeStmt.Tag a0 == TreeStmt.Tag a1 then (bif ByteArray.toList (TreeStmt.Name a0) == ByteArray.toList (TreeStmt.Name a1) then (bif ByteArray.toList (TreeStmt.Func a0) == ByteArray.toList (TreeStmt.Func a1) then ((S.slices_EqualFunc_TreeExpr_tree_SameExpr n (TreeStmt.E a0) (TreeStmt.E a1)).bind fun x4 => (bif x4 then ((S.tree_SameStmts n (TreeStmt.Body a0) (TreeStmt.Body a1)).bind fun x6 => (bif x6 then ((S.tree_SameStmts n (TreeStmt.Else a0) (TreeStmt.Else a1)).bind fun x8 => (some (x8))) else (some (false)))) else (some (false)))) else (some (false))) else (some (false))) else (some (false))) else (some (false)))
def S.slices_EqualFunc_TreeStmt_tree_Stmt_same_l0 : Nat → (List TreeStmt) → (List TreeStmt) → Int → Int → Option ((Bool) ⊕ (Unit))
  | 0,_,_,_,_ => none
  | n + 1,s1,s15,s16,s17 => (bif decide (s17 < s16) then (bif inRange s17 (List.length (List.map TreeStmt.v s15)) then ((((s15) : List TreeStmt)[Int.toNat s17]?).bind fun x2 => (bif inRange s17 (List.length (List.map TreeStmt.v s1)) then ((((s1) : List TreeStmt)[Int.toNat s17]?).bind fun x4 => ((S.tree_Stmt_same n x2 x4).bind fun x5 => (bif !x5 then (some (Sum.inl (false))) else (S.slices_EqualFunc_TreeStmt_tree_Stmt_same_l0 n (s1) (s15) (s16) (IntKind.wrap IntKind.i64 (s17 + 1)))))) else none)) else none) else (some (Sum.inr ())))
def S.slices_EqualFunc_TreeStmt_tree_Stmt_same : Nat → (List TreeStmt) → (List TreeStmt) → Option (Bool)
  | 0,_,_ => none
  | n + 1,a0,a1 => (bif inK IntKind.i64 (↑(List.length (List.map TreeStmt.v a0)) : Int) then (bif inK IntKind.i64 (↑(List.length (List.map TreeStmt.v a1)) : Int) then (bif (↑(List.length (List.map TreeStmt.v a0)) : Int) != (↑(List.length (List.map TreeStmt.v a1)) : Int) then (some (false)) else ((S.slices_EqualFunc_TreeStmt_tree_Stmt_same_l0 n (a1) (a0) ((↑(List.length (List.map TreeStmt.v a0)) : Int)) (0)).bind fun x4 => match x4 with | (Sum.inl x4) => (some (x4)) | (Sum.inr x4) => (some (true)))) else none) else none)
end
def S.tree_fits (n : Nat) (a0 : ByteArray) (a1 : Bool) : Option (Bool) := (bif a1 then ((S.lex_IsName n (a0)).bind fun x1 => (bif x1 then (some (true)) else (bif !a1 then (some (ByteArray.toList a0 == ByteArray.toList { data := #[] })) else (some (false))))) else (bif !a1 then (some (ByteArray.toList a0 == ByteArray.toList { data := #[] })) else (some (false))))
def S.tree_Stmt_form (n : Nat) (a0 : TreeStmt) : Option (TreeForm) := (bif TreeStmt.Kind a0 == 0 then (some (TreeForm.mk (true) (false) (false) (false) (1))) else (bif TreeStmt.Kind a0 == 1 then (some (TreeForm.mk (true) (false) (false) (false) (2))) else (bif TreeStmt.Kind a0 == 2 then (some (TreeForm.mk (true) (false) (false) (false) (0))) else (bif TreeStmt.Kind a0 == 3 then (bif inK IntKind.i64 (↑(List.length (List.map TreeExpr.v (TreeStmt.E a0))) : Int) then (some (TreeForm.mk (true) (true) (false) (false) ((↑(List.length (List.map TreeExpr.v (TreeStmt.E a0))) : Int)))) else none) else (bif TreeStmt.Kind a0 == 4 then (some (TreeForm.mk (false) (false) (true) (true) (1))) else (bif TreeStmt.Kind a0 == 5 then (some (TreeForm.mk (false) (false) (true) (false) (1))) else (bif TreeStmt.Kind a0 == 6 then (some (TreeForm.mk (false) (false) (false) (false) (0))) else (bif TreeStmt.Kind a0 == 7 then (some (TreeForm.mk (false) (false) (false) (false) (0))) else (bif TreeStmt.Kind a0 == 8 then (some (TreeForm.mk (false) (false) (false) (false) (1))) else (bif TreeStmt.Kind a0 == 9 then (some (TreeForm.mk (false) (false) (false) (false) (1))) else (some (TreeForm.mk (false) (false) (false) (false) (-1)))))))))))))
mutual
def S.tree_RightStmts : Nat → (List TreeStmt) → Option (Bool)
  | 0,_ => none
  | n + 1,a0 => ((S.tree_all_TreeStmt_tree_Stmt_right n (a0)).bind fun x0 => (some (x0)))
def S.tree_Stmt_right : Nat → TreeStmt → Option (Bool)
  | 0,_ => none
  | n + 1,a0 => ((S.tree_Stmt_form n a0).bind fun x0 => (bif decide (TreeStmt.Tag a0 ≥ 0) then (bif decide (TreeStmt.Tag a0 ≤ 1000000) then (bif inK IntKind.i64 (↑(List.length (List.map TreeExpr.v (TreeStmt.E a0))) : Int) then (bif (↑(List.length (List.map TreeExpr.v (TreeStmt.E a0))) : Int) == TreeForm.many x0 then ((S.tree_all_TreeExpr_tree_RightExpr n (TreeStmt.E a0)).bind fun x5 => (bif x5 then ((S.tree_fits n (TreeStmt.Name a0) (TreeForm.name x0)).bind fun x7 => (bif x7 then ((S.tree_fits n (TreeStmt.Func a0) (TreeForm.fun_ x0)).bind fun x9 => (bif x9 then (bif TreeForm.body x0 then (bif TreeForm.other x0 then ((S.tree_RightStmts n (TreeStmt.Body a0)).bind fun x13 => (bif x13 then ((S.tree_RightStmts n (TreeStmt.Else a0)).bind fun x15 => (some (x15))) else (some (false)))) else (bif inK IntKind.i64 (↑(List.length (List.map TreeStmt.v (TreeStmt.Else a0))) : Int) then (bif (↑(List.length (List.map TreeStmt.v (TreeStmt.Else a0))) : Int) == 0 then ((S.tree_RightStmts n (TreeStmt.Body a0)).bind fun x15 => (bif x15 then ((S.tree_RightStmts n (TreeStmt.Else a0)).bind fun x17 => (some (x17))) else (some (false)))) else (some (false))) else none)) else (bif inK IntKind.i64 (↑(List.length (List.map TreeStmt.v (TreeStmt.Body a0))) : Int) then (bif (↑(List.length (List.map TreeStmt.v (TreeStmt.Body a0))) : Int) == 0 then (bif TreeForm.other x0 then ((S.tree_RightStmts n (TreeStmt.Body a0)).bind fun x15 => (bif x15 then ((S.tree_RightStmts n (TreeStmt.Else a0)).bind fun x17 => (some (x17))) else (some (false)))) else (bif inK IntKind.i64 (↑(List.length (List.map TreeStmt.v (TreeStmt.Else a0))) : Int) then (bif (↑(List.length (List.map TreeStmt.v (TreeStmt.Else a0))) : Int) == 0 then ((S.tree_RightStmts n (TreeStmt.Body a0)).bind fun x17 => (bif x17 then ((S.tree_RightStmts n (TreeStmt.Else a0)).bind fun x19 => (some (x19))) else (some (false)))) else (some (false))) else none)) else (some (false))) else none)) else (some (false)))) else (some (false)))) else (some (false)))) else (some (false))) else none) else (some (false))) else (some (false))))
def S.tree_all_TreeStmt_k1 : Nat → TreeStmt → Option (Bool)
  | 0,_ => none
  | n + 1,a0 => ((S.tree_Stmt_right n a0).bind fun x0 => (some (!x0)))
def S.slices_IndexFunc_TreeStmt_tree_all_TreeStmt_k1_l0 : Nat → (List TreeStmt) → Int → Int → Option ((Int) ⊕ (Unit))
  | 0,_,_,_ => none
  | n + 1,s0,s7,s8 => (bif decide (s8 < s7) then (bif inRange s8 (List.length (List.map TreeStmt.v s0)) then ((((s0) : List TreeStmt)[Int.toNat s8]?).bind fun x2 => ((S.tree_all_TreeStmt_k1 n x2).bind fun x3 => (bif x3 then (some (Sum.inl (s8))) else (S.slices_IndexFunc_TreeStmt_tree_all_TreeStmt_k1_l0 n (s0) (s7) (IntKind.wrap IntKind.i64 (s8 + 1)))))) else none) else (some (Sum.inr ())))
def S.slices_IndexFunc_TreeStmt_tree_all_TreeStmt_k1 : Nat → (List TreeStmt) → Option (Int)
  | 0,_ => none
  | n + 1,a0 => (bif inK IntKind.i64 (↑(List.length (List.map TreeStmt.v a0)) : Int) then ((S.slices_IndexFunc_TreeStmt_tree_all_TreeStmt_k1_l0 n (a0) ((↑(List.length (List.map TreeStmt.v a0)) : Int)) (0)).bind fun x1 => match x1 with | (Sum.inl x1) => (some (x1)) | (Sum.inr x1) => (some (-1))) else none)
def S.slices_ContainsFunc_TreeStmt_tree_all_TreeStmt_k1 : Nat → (List TreeStmt) → Option (Bool)
  | 0,_ => none
  | n + 1,a0 => ((S.slices_IndexFunc_TreeStmt_tree_all_TreeStmt_k1 n (a0)).bind fun x0 => (some (decide (x0 ≥ 0))))
def S.tree_all_TreeStmt_tree_Stmt_right : Nat → (List TreeStmt) → Option (Bool)
  | 0,_ => none
  | n + 1,a0 => ((S.slices_ContainsFunc_TreeStmt_tree_all_TreeStmt_k1 n (a0)).bind fun x0 => (some (!x0)))
end
end Go.Im
