import Derived.Test.YtchocpffjnodfaaGreatProg
import Derived.Test.YtchocpffjnodfaaGreatSc
import Derived.KernelRfl
namespace Go.Proofs.YtchocpffjnodfaaGreat
open Go Go.Bur Go.RowKit
set_option linter.unusedVariables false
set_option linter.unusedSimpArgs false
set_option maxRecDepth 100000
noncomputable section
structure Res where
 table:Int
 isKey:Bool
 id:Int
def Res.eqb(a b:Res):Bool:=((a.table==b.table)&&((a.isKey==b.isKey)&&((a.id==b.id)&&true)))
structure Hold where
 txn:Int
 mode:Int
def Hold.eqb(a b:Hold):Bool:=((a.txn==b.txn)&&((a.mode==b.mode)&&true))
structure Wait where
 txn:Int
 mode:Int
 held:Int
def Wait.eqb(a b:Wait):Bool:=((a.txn==b.txn)&&((a.mode==b.mode)&&((a.held==b.held)&&true)))
structure Queue where
 res:Res
 holders:List Hold
 waiters:List Wait
structure Locks where
 queues:List Queue
structure law08_Op where
 kind:Int
 txn:Int
 mode:Int
 res:Res
def law08_Op.eqb(a b:law08_Op):Bool:=((a.kind==b.kind)&&((a.txn==b.txn)&&((a.mode==b.mode)&&(((a.res.table==b.res.table)&&((a.res.isKey==b.res.isKey)&&((a.res.id==b.res.id)&&true)))&&true))))
structure Lock where
 res:Res
 mode:Int
def Lock.eqb(a b:Lock):Bool:=(((a.res.table==b.res.table)&&((a.res.isKey==b.res.isKey)&&((a.res.id==b.res.id)&&true)))&&((a.mode==b.mode)&&true))
structure law08_told where
 l:Locks
 what:Int
 granted:List Int
 e:Int
@[reducible] def tabT:Nat→Type
 |0=>Res
 |1=>Hold
 |2=>Wait
 |3=>Queue
 |4=>Locks
 |5=>law08_Op
 |6=>Lock
 |7=>law08_told
 |_=>Unit
@[reducible] def tabL:Nat→List Ty
 |0=>[.int .i64,.bool,.int .u16]
 |1=>[.int .i64,.int .i64]
 |2=>[.int .i64,.int .i64,.int .i64]
 |3=>[.int .i64,.bool,.int .u16,.sl (.st 1),.sl (.st 2)]
 |4=>[.sl (.st 3)]
 |5=>[.int .i64,.int .i64,.int .i64,.int .i64,.bool,.int .u16]
 |6=>[.int .i64,.bool,.int .u16,.int .i64]
 |7=>[.sl (.st 3),.int .i64,.sl (.int .i64),.int .i64]
 |_=>[]
@[reducible] def tabGet:(i:Nat)→tabT i→HL tabT (tabL i)
 |0,x=>(x.table,x.isKey,x.id,())
 |1,x=>(x.txn,x.mode,())
 |2,x=>(x.txn,x.mode,x.held,())
 |3,x=>(x.res.table,x.res.isKey,x.res.id,x.holders,x.waiters,())
 |4,x=>(x.queues,())
 |5,x=>(x.kind,x.txn,x.mode,x.res.table,x.res.isKey,x.res.id,())
 |6,x=>(x.res.table,x.res.isKey,x.res.id,x.mode,())
 |7,x=>(x.l.queues,x.what,x.granted,x.e,())
 |_+8,_=>()
@[reducible] def tabMk:(i:Nat)→HL tabT (tabL i)→tabT i
 |0,h=>(Res.mk h.1 h.2.1 h.2.2.1)
 |1,h=>(Hold.mk h.1 h.2.1)
 |2,h=>(Wait.mk h.1 h.2.1 h.2.2.1)
 |3,h=>(Queue.mk (Res.mk h.1 h.2.1 h.2.2.1) h.2.2.2.1 h.2.2.2.2.1)
 |4,h=>(Locks.mk h.1)
 |5,h=>(law08_Op.mk h.1 h.2.1 h.2.2.1 (Res.mk h.2.2.2.1 h.2.2.2.2.1 h.2.2.2.2.2.1))
 |6,h=>(Lock.mk (Res.mk h.1 h.2.1 h.2.2.1) h.2.2.2.1)
 |7,h=>(law08_told.mk (Locks.mk h.1) h.2.1 h.2.2.1 h.2.2.2.1)
 |_+8,_=>()
@[reducible] def tab:Tab:=mkTab tabT tabL tabGet tabMk 3
theorem tabOk:TabOk tab where
 mk_get i x:=by
  match i,x with
  |0,_=>rfl
  |1,_=>rfl
  |2,_=>rfl
  |3,_=>rfl
  |4,_=>rfl
  |5,_=>rfl
  |6,_=>rfl
  |7,_=>rfl
  |_+8,_=>rfl
 get_mk i h:=by
  match i,h with
  |0,_=>rfl
  |1,_=>rfl
  |2,_=>rfl
  |3,_=>rfl
  |4,_=>rfl
  |5,_=>rfl
  |6,_=>rfl
  |7,_=>rfl
  |_+8,_=>rfl
 leaf i:=by
  match i with
  |0=>exact λt h=>List.all_eq_true.1 (by kernel_rfl:(tabL 0).all Ty.leaf=true) t h
  |1=>exact λt h=>List.all_eq_true.1 (by kernel_rfl:(tabL 1).all Ty.leaf=true) t h
  |2=>exact λt h=>List.all_eq_true.1 (by kernel_rfl:(tabL 2).all Ty.leaf=true) t h
  |3=>exact λt h=>List.all_eq_true.1 (by kernel_rfl:(tabL 3).all Ty.leaf=true) t h
  |4=>exact λt h=>List.all_eq_true.1 (by kernel_rfl:(tabL 4).all Ty.leaf=true) t h
  |5=>exact λt h=>List.all_eq_true.1 (by kernel_rfl:(tabL 5).all Ty.leaf=true) t h
  |6=>exact λt h=>List.all_eq_true.1 (by kernel_rfl:(tabL 6).all Ty.leaf=true) t h
  |7=>exact λt h=>List.all_eq_true.1 (by kernel_rfl:(tabL 7).all Ty.leaf=true) t h
  |_+8=>exact λt h=>(by cases h)
 sz i:=by
  match i with
  |0=>rfl
  |1=>rfl
  |2=>rfl
  |3=>rfl
  |4=>rfl
  |5=>rfl
  |6=>rfl
  |7=>rfl
  |_+8=>rfl
 rep i w vs x:=by
  match i,x with
  |0,_=>exact Iff.rfl
  |1,_=>exact Iff.rfl
  |2,_=>exact Iff.rfl
  |3,_=>exact Iff.rfl
  |4,_=>exact Iff.rfl
  |5,_=>exact Iff.rfl
  |6,_=>exact Iff.rfl
  |7,_=>exact Iff.rfl
  |_+8,_=>exact Iff.rfl
def addO:Option Nat:=none
theorem addOk:AddOk Tryz.prog addO:=addOk_none _
@[reducible] def dpO:List (TypeId×List (Option TypeId)):=[(43,[none,none,none,some 45,some 47])]
@[reducible] def tyOf:TypeId→Option Ty
 |2=>some (.int .i64)
 |3=>some (.int .i64)
 |4=>some (.bool)
 |5=>some (.int .u8)
 |6=>some (.int .u8)
 |9=>some (.str)
 |10=>some (.str)
 |11=>some (.str)
 |12=>some (.int .u64)
 |21=>some (.int .i32)
 |22=>some (.sl (.st 3))
 |24=>some (.st 4)
 |25=>some (.sl (.st 5))
 |28=>some (.int .u16)
 |30=>some (.st 0)
 |32=>some (.st 5)
 |33=>some (.sl (.int .i64))
 |34=>some (.int .i64)
 |36=>some (.st 7)
 |40=>some (.sl (.st 1))
 |41=>some (.sl (.st 2))
 |43=>some (.st 3)
 |45=>some (.st 1)
 |47=>some (.st 2)
 |56=>some (.int .u64)
 |87=>some (.st 6)
 |133=>some (.int .i64)
 |140=>some (.int .u32)
 |142=>some (.int .u64)
 |146=>some (.int .u64)
 |164=>some (.int .u8)
 |165=>some (.int .u8)
 |168=>some (.int .i32)
 |169=>some (.int .i32)
 |_=>none
end
end Go.Proofs.YtchocpffjnodfaaGreat
