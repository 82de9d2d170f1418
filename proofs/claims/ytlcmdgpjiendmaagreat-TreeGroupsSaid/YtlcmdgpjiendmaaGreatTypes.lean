import Derived.Test.YtlcmdgpjiendmaaGreatProg
import Derived.Test.YtlcmdgpjiendmaaGreatHn
import Derived.KernelRfl
import Derived.Test.YtlcmdgpjiendmaaGreatSg
import Derived.Test.YtlcmdgpjiendmaaGreatShelf
namespace Go.Proofs.YtlcmdgpjiendmaaGreat
open Go Go.Bur Go.RowKit
set_option linter.unusedVariables false
set_option linter.unusedSimpArgs false
set_option maxRecDepth 100000
noncomputable section
structure oI where
 ids:List Int
structure Key where
 table:Int
 id:Int
def Key.eqb(a b:Key):Bool:=((a.table==b.table)&&((a.id==b.id)&&true))
structure Row where
 key:Key
 val:Int
 note:ByteArray
def Row.eqb(a b:Row):Bool:=(((a.key.table==b.key.table)&&((a.key.id==b.key.id)&&true))&&((a.val==b.val)&&((a.note.toList==b.note.toList)&&true)))
structure Kid where
 least:Key
 page:Int
def Kid.eqb(a b:Kid):Bool:=(((a.least.table==b.least.table)&&((a.least.id==b.least.id)&&true))&&((a.page==b.page)&&true))
structure aA where
 kind:Int
 rows:List Row
 kids:List Kid
structure aC where
 pages:List aA
structure aF where
 page:Int
 content:aA
structure aG where
 sheets:List aF
structure bQ where
 f:aC
 groups:List aG
structure xS where
 least:Key
 next:Key
 ends:Bool
def xS.eqb(a b:xS):Bool:=(((a.least.table==b.least.table)&&((a.least.id==b.least.id)&&true))&&(((a.next.table==b.next.table)&&((a.next.id==b.next.id)&&true))&&((a.ends==b.ends)&&true)))
@[reducible] def cK:Nat->Type
 |0=>oI
 |1=>Key
 |2=>Row
 |3=>Kid
 |4=>aA
 |5=>aC
 |6=>aF
 |7=>aG
 |8=>bQ
 |9=>xS
 |_=>Unit
@[reducible] def tN:Nat->List Ty
 |0=>[.sl (.int .i64)]
 |1=>[.int .i64,.int .u16]
 |2=>[.int .i64,.int .u16,.int .i64,.str]
 |3=>[.int .i64,.int .u16,.int .i64]
 |4=>[.int .i64,.sl (.st 2),.sl (.st 3)]
 |5=>[.sl (.st 4)]
 |6=>[.int .i64,.int .i64,.sl (.st 2),.sl (.st 3)]
 |7=>[.sl (.st 6)]
 |8=>[.sl (.st 4),.sl (.st 7)]
 |9=>[.int .i64,.int .u16,.int .i64,.int .u16,.bool]
 |_=>[]
@[reducible] def Xl:(i:Nat)->cK i->HL cK (tN i)
 |0,x=>(x.ids,())
 |1,x=>(x.table,x.id,())
 |2,x=>(x.key.table,x.key.id,x.val,x.note,())
 |3,x=>(x.least.table,x.least.id,x.page,())
 |4,x=>(x.kind,x.rows,x.kids,())
 |5,x=>(x.pages,())
 |6,x=>(x.page,x.content.kind,x.content.rows,x.content.kids,())
 |7,x=>(x.sheets,())
 |8,x=>(x.f.pages,x.groups,())
 |9,x=>(x.least.table,x.least.id,x.next.table,x.next.id,x.ends,())
 |_+10,_=>()
@[reducible] def Zr:(i:Nat)->HL cK (tN i)->cK i
 |0,h=>(oI.mk h.1)
 |1,h=>(Key.mk h.1 h.2.1)
 |2,h=>(Row.mk (Key.mk h.1 h.2.1) h.2.2.1 h.2.2.2.1)
 |3,h=>(Kid.mk (Key.mk h.1 h.2.1) h.2.2.1)
 |4,h=>(aA.mk h.1 h.2.1 h.2.2.1)
 |5,h=>(aC.mk h.1)
 |6,h=>(aF.mk h.1 (aA.mk h.2.1 h.2.2.1 h.2.2.2.1))
 |7,h=>(aG.mk h.1)
 |8,h=>(bQ.mk (aC.mk h.1) h.2.1)
 |9,h=>(xS.mk (Key.mk h.1 h.2.1) (Key.mk h.2.2.1 h.2.2.2.1) h.2.2.2.2.1)
 |_+10,_=>()
@[reducible] def tab:Tab:=WA cK tN Xl Zr 4
def uY:Nat->Nat
 |0=>1
 |1=>1
 |2=>1
 |3=>1
 |4=>2
 |5=>3
 |6=>2
 |7=>3
 |8=>4
 |9=>1
 |_=>1
theorem Xm(i:Nat):1<=uY i:=by
 match i with
 |0=>exact of_decide_eq_true (by kernel_rfl)
 |1=>exact of_decide_eq_true (by kernel_rfl)
 |2=>exact of_decide_eq_true (by kernel_rfl)
 |3=>exact of_decide_eq_true (by kernel_rfl)
 |4=>exact of_decide_eq_true (by kernel_rfl)
 |5=>exact of_decide_eq_true (by kernel_rfl)
 |6=>exact of_decide_eq_true (by kernel_rfl)
 |7=>exact of_decide_eq_true (by kernel_rfl)
 |8=>exact of_decide_eq_true (by kernel_rfl)
 |9=>exact of_decide_eq_true (by kernel_rfl)
 |_+10=>exact Nat.le_refl 1
theorem YX(i:Nat):uY i<=4:=by
 match i with
 |0=>exact of_decide_eq_true (by kernel_rfl)
 |1=>exact of_decide_eq_true (by kernel_rfl)
 |2=>exact of_decide_eq_true (by kernel_rfl)
 |3=>exact of_decide_eq_true (by kernel_rfl)
 |4=>exact of_decide_eq_true (by kernel_rfl)
 |5=>exact of_decide_eq_true (by kernel_rfl)
 |6=>exact of_decide_eq_true (by kernel_rfl)
 |7=>exact of_decide_eq_true (by kernel_rfl)
 |8=>exact of_decide_eq_true (by kernel_rfl)
 |9=>exact of_decide_eq_true (by kernel_rfl)
 |_+10=>exact(by decide:1<=4)
theorem YY(i:Nat):∀t∈tN i,t.inDep uY (uY i)=true:=by
 match i with
 |0=>exact λt h=>List.all_eq_true.1 (by kernel_rfl:(tN 0).all (Ty.inDep uY (uY 0))=true) t h
 |1=>exact λt h=>List.all_eq_true.1 (by kernel_rfl:(tN 1).all (Ty.inDep uY (uY 1))=true) t h
 |2=>exact λt h=>List.all_eq_true.1 (by kernel_rfl:(tN 2).all (Ty.inDep uY (uY 2))=true) t h
 |3=>exact λt h=>List.all_eq_true.1 (by kernel_rfl:(tN 3).all (Ty.inDep uY (uY 3))=true) t h
 |4=>exact λt h=>List.all_eq_true.1 (by kernel_rfl:(tN 4).all (Ty.inDep uY (uY 4))=true) t h
 |5=>exact λt h=>List.all_eq_true.1 (by kernel_rfl:(tN 5).all (Ty.inDep uY (uY 5))=true) t h
 |6=>exact λt h=>List.all_eq_true.1 (by kernel_rfl:(tN 6).all (Ty.inDep uY (uY 6))=true) t h
 |7=>exact λt h=>List.all_eq_true.1 (by kernel_rfl:(tN 7).all (Ty.inDep uY (uY 7))=true) t h
 |8=>exact λt h=>List.all_eq_true.1 (by kernel_rfl:(tN 8).all (Ty.inDep uY (uY 8))=true) t h
 |9=>exact λt h=>List.all_eq_true.1 (by kernel_rfl:(tN 9).all (Ty.inDep uY (uY 9))=true) t h
 |_+10=>exact λt h=>(by cases h)
theorem aK:bB tab where
 mk_get i x:=by
  match i,x with
  |0,_=>rfl
  |1,_=>rfl
  |2,_=>rfl
  |3,_=>rfl
  |4,_=>rfl
  |5,_=>rfl
  |6,_=>rfl
  |7,_=>rfl
  |8,_=>rfl
  |9,_=>rfl
  |_+10,_=>rfl
 get_mk i h:=by
  match i,h with
  |0,_=>rfl
  |1,_=>rfl
  |2,_=>rfl
  |3,_=>rfl
  |4,_=>rfl
  |5,_=>rfl
  |6,_=>rfl
  |7,_=>rfl
  |8,_=>rfl
  |9,_=>rfl
  |_+10,_=>rfl
 leaf i:=by
  match i with
  |0=>exact λt h=>List.all_eq_true.1 (by kernel_rfl:(tN 0).all Ty.leaf=true) t h
  |1=>exact λt h=>List.all_eq_true.1 (by kernel_rfl:(tN 1).all Ty.leaf=true) t h
  |2=>exact λt h=>List.all_eq_true.1 (by kernel_rfl:(tN 2).all Ty.leaf=true) t h
  |3=>exact λt h=>List.all_eq_true.1 (by kernel_rfl:(tN 3).all Ty.leaf=true) t h
  |4=>exact λt h=>List.all_eq_true.1 (by kernel_rfl:(tN 4).all Ty.leaf=true) t h
  |5=>exact λt h=>List.all_eq_true.1 (by kernel_rfl:(tN 5).all Ty.leaf=true) t h
  |6=>exact λt h=>List.all_eq_true.1 (by kernel_rfl:(tN 6).all Ty.leaf=true) t h
  |7=>exact λt h=>List.all_eq_true.1 (by kernel_rfl:(tN 7).all Ty.leaf=true) t h
  |8=>exact λt h=>List.all_eq_true.1 (by kernel_rfl:(tN 8).all Ty.leaf=true) t h
  |9=>exact λt h=>List.all_eq_true.1 (by kernel_rfl:(tN 9).all Ty.leaf=true) t h
  |_+10=>exact λt h=>(by cases h)
 sz i:=by
  match i with
  |0=>rfl
  |1=>rfl
  |2=>rfl
  |3=>rfl
  |4=>rfl
  |5=>rfl
  |6=>rfl
  |7=>rfl
  |8=>rfl
  |9=>rfl
  |_+10=>rfl
 rep i w vs x:=Yy cK tN Xl Zr Xm YY 4 YX i w vs x
def bG:Option Nat:=none
theorem aN:Su Tryz.prog bG:=Re _
@[reducible] def dpO:List (TypeId×List (Option TypeId)):=[]
@[reducible] def bE:TypeId->Option Ty
 |2=>some (.int .i64)
 |3=>some (.int .i64)
 |4=>some (.bool)
 |5=>some (.int .u8)
 |6=>some (.int .u8)
 |9=>some (.str)
 |10=>some (.str)
 |11=>some (.str)
 |12=>some (.int .u64)
 |21=>some (.int .i32)
 |22=>some (.sl (.int .i64))
 |24=>some (.st 0)
 |26=>some (.sl (.st 4))
 |28=>some (.st 5)
 |30=>some (.sl (.st 2))
 |31=>some (.int .i64)
 |36=>some (.int .u16)
 |38=>some (.st 1)
 |40=>some (.st 2)
 |45=>some (.sl (.st 3))
 |47=>some (.st 4)
 |57=>some (.sl (.st 7))
 |71=>some (.sl (.st 6))
 |74=>some (.st 7)
 |76=>some (.st 6)
 |98=>some (.st 9)
 |100=>some (.st 3)
 |106=>some (.st 8)
 |165=>some (.int .u64)
 |193=>some (.int .i64)
 |200=>some (.int .u32)
 |202=>some (.int .u64)
 |213=>some (.int .u64)
 |222=>some (.sl (.sl (.st 2)))
 |224=>some (.sl (.sl (.st 3)))
 |238=>some (.int .u8)
 |239=>some (.int .u8)
 |242=>some (.int .i32)
 |243=>some (.int .i32)
 |_=>none
end
end Go.Proofs.YtlcmdgpjiendmaaGreat
