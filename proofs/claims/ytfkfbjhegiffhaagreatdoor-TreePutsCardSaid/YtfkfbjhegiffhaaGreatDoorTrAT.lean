/- The program's types (by wip/gen). -/
import Derived.Test.YtfkfbjhegiffhaaGreatDoorImGn
set_option linter.unusedVariables false
set_option linter.unusedSimpArgs false
set_option maxRecDepth 100000
set_option maxHeartbeats 4000000
namespace Go.Im
structure TreeExpr where
  Kind : Int
  Op : ByteArray
  N : Int
  Name : ByteArray
  Kids : (List TreeExpr)
mutual
def TreeExpr.v : TreeExpr → V
  | ⟨a0, a1, a2, a3, a4⟩ => .agg [.int true .i64 (a0), .str true (a1), .int true .i64 (a2), .str true (a3), .isl true (TreeExpr.vs a4)]
def TreeExpr.vs : List TreeExpr → List V
  | [] => []
  | e :: es => TreeExpr.v e :: TreeExpr.vs es
end
theorem TreeExpr.vs_eq : ∀ l : List TreeExpr, TreeExpr.vs l = List.map TreeExpr.v l
  | [] => by rw [TreeExpr.vs]; rfl
  | e :: es => by rw [TreeExpr.vs, TreeExpr.vs_eq es]; rfl
def TreeExpr.c (x : TreeExpr) : V := .agg [.int true .i64 (TreeExpr.Kind x), .str true (TreeExpr.Op x), .int true .i64 (TreeExpr.N x), .str true (TreeExpr.Name x), .isl true (List.map TreeExpr.v (TreeExpr.Kids x))]
theorem TreeExpr.v_eq (x : TreeExpr) : TreeExpr.v x = TreeExpr.c x := by
  cases x; simp only [TreeExpr.v, TreeExpr.vs_eq]; rfl
theorem TreeExpr.ok (x : TreeExpr) : okE 40 (TreeExpr.v x) = true := by rw [TreeExpr.v_eq]; kernel_rfl
structure Law03Feed where
  l : (List UInt8)
  at_ : Int
  ints : (List ByteArray)
  arrays : (List ByteArray)
  left : Int
  tag : Int
  main : Bool
def Law03Feed.c (x : Law03Feed) : V := .agg [.isl true (List.map bV (Law03Feed.l x)), .int true .i64 (Law03Feed.at_ x), .isl true (List.map (V.str true) (Law03Feed.ints x)), .isl true (List.map (V.str true) (Law03Feed.arrays x)), .int true .i64 (Law03Feed.left x), .int true .i64 (Law03Feed.tag x), .bool true (Law03Feed.main x)]
def Law03Feed.v (x : Law03Feed) : V := Law03Feed.c x
theorem Law03Feed.v_eq (x : Law03Feed) : Law03Feed.v x = Law03Feed.c x := rfl
theorem Law03Feed.ok (x : Law03Feed) : okE 37 (Law03Feed.v x) = true := by rw [Law03Feed.v_eq]; kernel_rfl
structure TreeDecl where
  Name : ByteArray
  Size : Int
def TreeDecl.c (x : TreeDecl) : V := .agg [.str true (TreeDecl.Name x), .int true .i64 (TreeDecl.Size x)]
def TreeDecl.v (x : TreeDecl) : V := TreeDecl.c x
theorem TreeDecl.v_eq (x : TreeDecl) : TreeDecl.v x = TreeDecl.c x := rfl
theorem TreeDecl.ok (x : TreeDecl) : okE 85 (TreeDecl.v x) = true := by rw [TreeDecl.v_eq]; kernel_rfl
structure TreeForm where
  name : Bool
  fun_ : Bool
  body : Bool
  other : Bool
  many : Int
def TreeForm.c (x : TreeForm) : V := .agg [.bool true (TreeForm.name x), .bool true (TreeForm.fun_ x), .bool true (TreeForm.body x), .bool true (TreeForm.other x), .int true .i64 (TreeForm.many x)]
def TreeForm.v (x : TreeForm) : V := TreeForm.c x
theorem TreeForm.v_eq (x : TreeForm) : TreeForm.v x = TreeForm.c x := rfl
theorem TreeForm.ok (x : TreeForm) : okE 154 (TreeForm.v x) = true := by rw [TreeForm.v_eq]; kernel_rfl
structure TreeStmt where
  Kind : Int
  Tag : Int
  Name : ByteArray
  Func : ByteArray
  E : (List TreeExpr)
  Body : (List TreeStmt)
  Else : (List TreeStmt)
mutual
def TreeStmt.v : TreeStmt → V
  | ⟨a0, a1, a2, a3, a4, a5, a6⟩ => .agg [.int true .i64 (a0), .int true .i64 (a1), .str true (a2), .str true (a3), .isl true (List.map TreeExpr.v (a4)), .isl true (TreeStmt.vs a5), .isl true (TreeStmt.vs a6)]
def TreeStmt.vs : List TreeStmt → List V
  | [] => []
  | e :: es => TreeStmt.v e :: TreeStmt.vs es
end
theorem TreeStmt.vs_eq : ∀ l : List TreeStmt, TreeStmt.vs l = List.map TreeStmt.v l
  | [] => by rw [TreeStmt.vs]; rfl
  | e :: es => by rw [TreeStmt.vs, TreeStmt.vs_eq es]; rfl
def TreeStmt.c (x : TreeStmt) : V := .agg [.int true .i64 (TreeStmt.Kind x), .int true .i64 (TreeStmt.Tag x), .str true (TreeStmt.Name x), .str true (TreeStmt.Func x), .isl true (List.map TreeExpr.v (TreeStmt.E x)), .isl true (List.map TreeStmt.v (TreeStmt.Body x)), .isl true (List.map TreeStmt.v (TreeStmt.Else x))]
theorem TreeStmt.v_eq (x : TreeStmt) : TreeStmt.v x = TreeStmt.c x := by
  cases x; simp only [TreeStmt.v, TreeStmt.vs_eq]; rfl
theorem TreeStmt.ok (x : TreeStmt) : okE 83 (TreeStmt.v x) = true := by rw [TreeStmt.v_eq]; kernel_rfl
structure TreeFunc where
  Name : ByteArray
  Params : (List ByteArray)
  Vars : (List TreeDecl)
  Body : (List TreeStmt)
def TreeFunc.c (x : TreeFunc) : V := .agg [.str true (TreeFunc.Name x), .isl true (List.map (V.str true) (TreeFunc.Params x)), .isl true (List.map TreeDecl.v (TreeFunc.Vars x)), .isl true (List.map TreeStmt.v (TreeFunc.Body x))]
def TreeFunc.v (x : TreeFunc) : V := TreeFunc.c x
theorem TreeFunc.v_eq (x : TreeFunc) : TreeFunc.v x = TreeFunc.c x := rfl
theorem TreeFunc.ok (x : TreeFunc) : okE 50 (TreeFunc.v x) = true := by rw [TreeFunc.v_eq]; kernel_rfl
structure TreeProg where
  Funcs : (List TreeFunc)
def TreeProg.c (x : TreeProg) : V := .agg [.isl true (List.map TreeFunc.v (TreeProg.Funcs x))]
def TreeProg.v (x : TreeProg) : V := TreeProg.c x
theorem TreeProg.v_eq (x : TreeProg) : TreeProg.v x = TreeProg.c x := rfl
theorem TreeProg.ok (x : TreeProg) : okE 24 (TreeProg.v x) = true := by rw [TreeProg.v_eq]; kernel_rfl
structure Law03Code where
  P : TreeProg
  Own : Bool
  L : (List UInt8)
  G : (List UInt8)
def Law03Code.c (x : Law03Code) : V := .agg [.isl true (List.map TreeFunc.v (TreeProg.Funcs (Law03Code.P x))), .bool true (Law03Code.Own x), .isl true (List.map bV (Law03Code.L x)), .isl true (List.map bV (Law03Code.G x))]
def Law03Code.v (x : Law03Code) : V := Law03Code.c x
theorem Law03Code.v_eq (x : Law03Code) : Law03Code.v x = Law03Code.c x := rfl
theorem Law03Code.ok (x : Law03Code) : okE 27 (Law03Code.v x) = true := by rw [Law03Code.v_eq]; kernel_rfl
end Go.Im
