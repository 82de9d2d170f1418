import Derived.Test.YtlcmdgpjiendmaaGreatDp
namespace Go.Bur
open Go.RowKit
set_option linter.unusedVariables false
set_option linter.unusedSimpArgs false
section
variable {R : Type}
def aby{τ:Nat->Type}:Option (AV τ)->Bool
 |some (.v (.one (.vw _ _ _)))=>true
 |_=>false
variable {P : Program} {S : Tab}
def KA(P:Program)(S:Tab)(ev:Ev S.τ)(it:Nat->Option (Item S.τ))(t:TypeId)(x i:Operand)(k:Out S.τ->Option R):Option R:=none
theorem KB(ok:bB S){o:Oper}{ev:Ev S.τ}{it:Nat->Option (Item S.τ)}{nx:Nat}{t:TypeId}{x i:Operand}{k:Out S.τ->Option R}{r:R}(hop:o.op= .indexAddr t x i)(h:KA P S ev it t x i k=some r):∃out,k out=some r/\bM P S o ev it nx out:=by
 unfold KA at h
 cases h
def Sj(P:Program)(S:Tab)(ev:Ev S.τ)(it:Nat->Option (Item S.τ)):Op->Option (Int×List Nat):=λ_=>none
theorem OE{o:Oper}{ev:Ev S.τ}{it:Nat->Option (Item S.τ)}{nx:Nat}{z:Int}{us:List Nat}(h:Sj P S ev it o.op=some (z,us)):bM P S o ev it nx ⟨Pe .i64 z,[],[],us,0⟩:=by
 unfold Sj at h
 cases h
def KC(P:Program)(S:Tab)(ev:Ev S.τ)(it:Nat->Option (Item S.τ))(t:TypeId)(x:Operand)(lo:Option Operand)(k:Out S.τ->Option R):Option R:=none
theorem KD(ok:bB S){o:Oper}{ev:Ev S.τ}{it:Nat->Option (Item S.τ)}{nx:Nat}{t:TypeId}{x:Operand}{lo:Option Operand}{k:Out S.τ->Option R}{r:R}(hop:o.op= .slice t x lo none none)(h:KC P S ev it t x lo k=some r):∃out,k out=some r/\bM P S o ev it nx out:=by
 unfold KC at h
 cases h
theorem Y0(z:Array Value)(k:Nat):(Builtin.zeroCells z (k+1)).toList=z.toList++(Builtin.zeroCells z k).toList:=by
 apply List.ext_getElem?
 intro i
 simp only[Builtin.zeroCells,Array.toList_map,Array.toList_range,List.getElem?_map,List.getElem?_append,Array.length_toList]
 by_cases h:i<z.size
 ·rw[if_pos h,List.getElem?_range (by rw[Nat.succ_mul];omega)]
  simp[Nat.mod_eq_of_lt h,h]
 ·rw[if_neg h]
  by_cases h2:i<(k+1)*z.size
  ·rw[List.getElem?_range h2,List.getElem?_range (by rw[Nat.succ_mul] at h2;omega)]
   simp only[Option.map_some]
   rw[show i % z.size=(i-z.size) % z.size from by rw[<-Nat.mod_eq_sub_mod (by omega)]]
  ·rw[List.getElem?_eq_none (by simpa using h2),List.getElem?_eq_none (by rw[Nat.succ_mul] at h2;simp;omega)]
theorem Tw{α:Type}{G:GoT α}{w:World}{z:Array Value}{x:α}(h:G.rep w z.toList x):∀k,gN G w (Builtin.zeroCells z k).toList (List.replicate k x)
 |0=>by
  have:(Builtin.zeroCells z 0).toList=[]:=by simp[Builtin.zeroCells]
  rw[this];exact .nil
 |k+1=>by
  rw[Y0,List.replicate_succ]
  exact .cons h (Tw h k)
def Xr(P:Program)(S:Tab)(e:TypeId)(u:Ty):Option (Dn S.τ u):=match P.info? e with
 |some inf=>match inf.zero,Nat.beq inf.size (S.sz u),Nat.beq (match inf.zero with|some z=>z.cells.size|none=>0) (S.sz u) with
  |some z,true,true=>match LQ (τ:=S.τ) z with
   |some a=>match SM a with
    |some ls=>match ls.all Lf.cell,GJ (S.lvs u) ls with
     |true,some h=>some (S.mkT u h)
     |_,_=>none
    |none=>none
   |none=>none
  |_,_,_=>none
 |none=>none
theorem UQ(ok:bB S){e:TypeId}{u:Ty}{x:Dn S.τ u}(h:Xr P S e u=some x):∃inf z,P.info? e=some inf/\inf.zero=some z/\inf.size=S.sz u/\z.cells.size=S.sz u/\(∀v∈z.cells.toList,v.oneCell'=true)/\∀w,(S.GT u).rep w z.cells.toList x:=by
 unfold Xr at h
 split at h
 ·rename_i inf hinf
  split at h
  ·rename_i z hz hs1 hs2
   rw[hz] at hs2
   split at h
   ·rename_i a ha
    split at h
    ·rename_i ls hls
     split at h
     ·rename_i hh hc hhl
      obtain rfl:=someI' h
      have hr:∀ρ:Rho,aH (aU S ρ []) ls z.cells.toList:=λρ=>L4 hls (CX ha)
      refine⟨inf,z,hinf,hz,Nat.eq_of_beq_eq_true hs1,Nat.eq_of_beq_eq_true hs2,CK hc (hr λ_=>none),λw=> ?_⟩
      exact(AR ok (Ps:=[]) (F:=[]) (w:=w) (by simp) (kS hhl (hr λ_=>none))).here
     ·cases h
    ·cases h
   ·cases h
  ·cases h
 ·cases h
def Sk(P:Program)(S:Tab)(ev:Ev S.τ)(it:Nat->Option (Item S.τ)):Op->(Out S.τ->Option R)->Option R:=λ_ _=>none
theorem OG(ok:bB S){o:Oper}{ev:Ev S.τ}{it:Nat->Option (Item S.τ)}{nx:Nat}{k:Out S.τ->Option R}{r:R}(h:Sk P S ev it o.op k=some r):∃out,k out=some r/\bM P S o ev it nx out:=by
 unfold Sk at h
 cases h
def Xs(P:Program)(S:Tab)(ty:TypeId->Option Ty)(ev:Ev S.τ)(nx:Nat)(t:TypeId)(n c:Operand)(k:Out S.τ->Option R):Option R:=match P.underlying t,kR (ev n),kR (ev c) with
 |some (.slice e),some (_,i),some (_,j)=>match ty e with
  |some u=>match Xr P S e u with
   |some z=>match decide (0<=i/\i=j/\i<=4096),Nat.ble (match P.info? e with|some inf=>inf.bytes|none=>4096) 4095 with
    |true,true=>k ⟨.v (.one (.own nx)),[],[(nx,.row e u (List.replicate i.toNat z))],[],1⟩
    |_,_=>none
   |none=>none
  |none=>none
 |_,_,_=>none
theorem Q3(ok:bB S){ty:TypeId->Option Ty}{o:Oper}{ev:Ev S.τ}{it:Nat->Option (Item S.τ)}{nx:Nat}{t:TypeId}{n c:Operand}{k:Out S.τ->Option R}{r:R}(hop:o.op= .makeSlice t n c)(h:Xs P S ty ev nx t n c k=some r):∃out,k out=some r/\bM P S o ev it nx out:=by
 obtain⟨dst,op,type,pos,after,guard⟩:=o
 simp only at hop
 subst hop
 unfold Xs at h
 split at h
 ·rename_i e ki i kj j hu hi hj
  split at h
  ·rename_i u hty
   split at h
   ·rename_i z hz
    split at h
    ·rename_i hd hby
     obtain⟨h0,rfl,h1⟩:=of_decide_eq_true hd
     obtain⟨inf,zv,hinf,hzv,hs1,hs2,hz1,hrep⟩:=UQ ok hz
     rw[hinf] at hby
     have hby:inf.bytes<=4095:=Nat.le_of_ble_eq_true hby
     refine⟨_,h,Sp ok (by rw[List.length_replicate];omega) λa w F ρ Ps hev hp=>⟨(Builtin.zeroCells zv.cells i.toNat).toList, ?_,λw2 hk=>Tw (hrep w2) _⟩⟩
     have e1:=cY hev hi
     have e2:=cY hev hj
     obtain⟨q,rfl⟩:=Int.eq_ofNat_of_zero_le h0
     have hq:q<=4096:=by omega
     have hwr:IntKind.wrap .i64 (q:Int)=(q:Int):=by rw[IntKind.wrap_i64];omega
     have hmul:inf.bytes*q<=4095*4096:=Nat.mul_le_mul hby hq
     have hmul2:q*inf.bytes<=4095*4096:=by rw[Nat.mul_comm];exact hmul
     have hbi:¬((inf.bytes:Int)*(q:Int)>2^48):=by
      have:((inf.bytes*q:Nat):Int)<=((4095*4096:Nat):Int):=Int.ofNat_le.2 hmul
      rw[Int.natCast_mul] at this
      omega
     have hn0:¬((q:Int)<0):=by omega
     rw[List.length_replicate]
     have hcond:(decide ((q:Int)<0)||decide ((inf.bytes:Int)*(q:Int)>2^48)||decide ((q:Int)<0)||decide ((q:Int)>(q:Int)))=false:=by
      rw[decide_eq_false hn0,decide_eq_false hbi,decide_eq_false (show ¬((q:Int)>(q:Int)) by omega)];rfl
     have hroom:¬(((q:Int)).toNat*inf.bytes>roomBytes):=by
      rw[show((q:Int)).toNat=q from rfl,show roomBytes=140737488355328 from rfl];omega
     simp only[execOp,e1,e2,Sem.run_bind,Instr.makeSlice,run_underlying hu,Result.andThen_ok,asInt,asIntOf,Sem.run_pure,cR hinf,hwr]
     rw[hcond]
     simp only[Bool.false_eq_true,if_false,askRoom,if_neg hroom,Sem.run_bind,Sem.run_pure,Result.andThen_ok,sizeOf,cR hinf]
     rw[show((q:Int)).toNat=q from rfl,hs1]
     by_cases hz0:q*S.sz u=0
     ·have:(Builtin.zeroCells zv.cells q).toList.toArray=(Array.range (q*S.sz u)).map (λx=>(#[]:Array Value)[x % (#[]:Array Value).size]!):=by
       simp[Builtin.zeroCells,hs2,hz0]
      rw[if_pos hz0,this]
      simp[fX]
     ·rw[if_neg hz0]
      have:(Builtin.zeroCells zv.cells q).toList.toArray=(Array.range (q*S.sz u)).map (λx=>zv.cells[x % zv.cells.size]!):=by
       rw[Array.toArray_toList];unfold Builtin.zeroCells;rw[hs2]
      rw[this]
      simp[zeroValue,cR hinf,hzv,fX]
    ·cases h
   ·cases h
  ·cases h
 ·cases h
end
end Go.Bur
