import Derived.Test.YtlcmdgpjiendmaaGreatTypes
import Derived.Test.YtlcmdgpjiendmaaGreatF3
namespace Go.Proofs.YtlcmdgpjiendmaaGreat
open Go Go.Bur Go.RowKit
set_option linter.unusedVariables false
set_option linter.unusedSimpArgs false
set_option maxRecDepth 100000
noncomputable section
def yO(n:Nat):Nat->(List Row)×(List Row)×Int×Unit->Option Bool:=aW λr1 ⟨v1,v2,v3,_⟩=>
 cond (decide (v3<(v1.length:Int)))
 ((idx v1 v3).bind λx4=>
 (idx v2 v3).bind λx5=>
 cond (!(Row.eqb x4 x5))
 (some false)
 (r1 (v1,v2,(IntKind.wrap .i64 (v3+1)),())))
 (some true)
def wC(n:Nat)(p0:List Row)(p1:List Row):Option Bool:=
 cond ((p0.length:Int) !=(p1.length:Int))
 (some false)
 (yO n n (p0,p1,0,()))
@[reducible] def Ed:Ct tab:=⟨28,[.one (.d (.sl (.st 2))),.one (.d (.sl (.st 2)))],[],[.one (.d .bool)],[],Bool,λy=>(y,()),λy=>y.1,λ_=>rfl,λn x=>wC n x.1 x.2.1⟩
theorem K0:OkC Tryz.prog tab Ed:=aQ (W:=⟨Tryz.prog,tab,bE,[],bG,dpO,false⟩) ⟨aK,trivial,aN⟩ (by kernel_rfl) 26 Tryz.f28 (.sq .n (.sq .n (.sq (.sq .n (.bk none (.lp ⟨[(0,.one (.d (.sl (.st 2)))),(1,.one (.d (.sl (.st 2)))),(5,.one (.d (.int .i64)))],[],[]⟩ .n))) .n))) Tryz.func28 Tryz.call28 rfl (by kernel_rfl) (by kernel_rfl) (by kernel_rfl) λn x=>by kernel_rfl
def wD(n:Nat)(p0:aA):Option Bool:=
 (jA n p0).bind λy1=>
 jn (fun(b2:Bool)=>
 jn (fun(b4:Bool)=>
 some b4) λk5=>
 cond b2
 ((eL n p0).bind λy6=>
 k5 (decide (y6<=2)))
 (k5 false)) λk3=>
 cond (y1==0)
 (k3 (p0.kind !=0))
 (k3 false)
@[reducible] def Ee:Ct tab:=⟨67,[.st 4],[],[.one (.d .bool)],[],Bool,λy=>(y,()),λy=>y.1,λ_=>rfl,λn x=>wD n x.1⟩
theorem K1:OkC Tryz.prog tab Ee:=aQ (W:=⟨Tryz.prog,tab,bE,[iR,jG],bG,dpO,false⟩) ⟨aK,⟨kG,kZ,trivial⟩,aN⟩ (by kernel_rfl) 16 Tryz.f67 .n Tryz.func67 Tryz.call67 rfl (by kernel_rfl) (by kernel_rfl) (by kernel_rfl) λn x=>by kernel_rfl
def wE(n:Nat)(p0:aA)(p1:aA):Option Bool:=
 jn (fun(b1:Bool)=>
 some b1) λk2=>
 cond (p0.kind==p1.kind)
 (k2 (p0.kind !=0))
 (k2 false)
@[reducible] def yP:Ct tab:=⟨151,[.st 4,.st 4],[],[.one (.d .bool)],[],Bool,λy=>(y,()),λy=>y.1,λ_=>rfl,λn x=>wE n x.1 x.2.1⟩
theorem Ef:OkC Tryz.prog tab yP:=aQ (W:=⟨Tryz.prog,tab,bE,[],bG,dpO,false⟩) ⟨aK,trivial,aN⟩ (by kernel_rfl) 15 Tryz.f151 .n Tryz.func151 Tryz.call151 rfl (by kernel_rfl) (by kernel_rfl) (by kernel_rfl) λn x=>by kernel_rfl
theorem Dt(p1:Int)(r:List (Raw 4))(h:tZ 40 p1=some r):
  Bm Tryz.prog 194 #[.slice none 0 0,.int .i64 p1] [] [] λv A P=>∃(a0:Option Addr) (c0:Nat),v= .slice a0 r.length c0/\A=[bC (aB 4) 40 a0 c0 r]/\P=[]:=by
 unfold tZ at h
 split at h
 ·rename_i h0
  split at h
  ·rename_i hroom
   obtain rfl:=someI' h
   obtain⟨k,rfl⟩:=Int.eq_ofNat_of_zero_le h0
   have hroom:room k 40=true:=hroom
   have hw:IntKind.wrap .i64 ((k:Int)-IntKind.wrap .i64 (((0:Nat):Int)-((0:Nat):Int)))=(k:Int):=by
    have hb:=Nat.le_of_ble_eq_true hroom
    rw[IntKind.wrap_i64,IntKind.wrap_i64];omega
   refine oE 27 Tryz.func194 Tryz.call194 rfl (by kernel_rfl) (by simp) λC a w hS=> ?_
   refine bN (by kernel_rfl) λK1 hK1=> ?_
   refine bX 1 (by kernel_rfl) ?_
   refine bU 0 1 [0,1,4] [] hS rfl (L':=[(0,.slice none 0 0),(1,.int .i64 (k:Int)),(4,.slice none 0 0)]) (As':=[]) (ob:=[]) (by kernel_rfl) trivial λa w hS=> ?_
   refine bF ?_
   refine hK1 _ _ ?_
   refine bN (by kernel_rfl) λK2 hK2=> ?_
   refine bN (by kernel_rfl) λK3 hK3=> ?_
   refine bX 2 (by kernel_rfl) ?_
   refine bU 0 2 [0,1,6] [] hS rfl (L':=[(0,.slice none 0 0),(1,.int .i64 (k:Int)),(6,.bool (decide ((k:Int)<0)))]) (As':=[]) (ob:=[]) (by kernel_rfl) trivial λa w hS=> ?_
   refine bF ?_
   refine hK3 _ _ ?_
   refine oP (decide ((k:Int)<0)) hS.has (by kernel_rfl) (by kernel_rfl) (by kernel_rfl) (λhq=>absurd (of_decide_eq_true hq) (by omega)) (λhq=> ?_)
   refine tC (by kernel_rfl) ?_
   refine hK2 _ _ ?_
   refine bN (by kernel_rfl) λK4 hK4=> ?_
   refine bN (by kernel_rfl) λK5 hK5=> ?_
   refine bX 8 (by kernel_rfl) ?_
   refine bU 0 8 [0,1] [.as 14 (.int .i64 (k:Int))] hS rfl (L':=[(0,.slice none 0 0),(1,.int .i64 (k:Int))]) (As':=[]) (ob:=[λ_=>Value.int .i64 (IntKind.wrap .i64 ((k:Int)-IntKind.wrap .i64 (((0:Nat):Int)-((0:Nat):Int))))= .int .i64 (k:Int)]) (by kernel_rfl) ⟨Bx.c (by rw[hw]),trivial⟩ λa w hS=> ?_
   refine bF ?_
   refine hK5 _ _ ?_
   refine bN (by kernel_rfl) λK6 hK6=> ?_
   refine bX 2 (by kernel_rfl) ?_
   refine bU 0 2 [0,1,16] [] hS rfl (L':=[(0,.slice none 0 0),(1,.int .i64 (k:Int)),(16,.bool (decide ((k:Int)>0)))]) (As':=[]) (ob:=[]) (by kernel_rfl) trivial λa w hS=> ?_
   refine bF ?_
   refine hK6 _ _ ?_
   refine oP (decide ((k:Int)>0)) hS.has (by kernel_rfl) (by kernel_rfl) (by kernel_rfl) (λhq=> ?_) (λhq=> ?_)
   ·have hk:0<k:=by have:=of_decide_eq_true hq;omega
    refine bX 10 (by kernel_rfl) ?_
    refine bU 0 5 [0,20,21] [.as 20 (.slice none 0 0)] hS rfl (L':=[(0,.slice none 0 0),(20,.slice none 0 0),(21,.int .i64 (k:Int))]) (As':=[]) (ob:=[λ_=>(0:Int)<=0/\(0:Int)<=((0:Nat):Int)/\((0:Nat):Int)<=((0:Nat):Int),λ_=>Value.slice (slA none (Int.toNat 0) 0 4) (Int.toNat ((0:Nat):Int)-Int.toNat 0) (0-Int.toNat 0)= .slice none 0 0]) (by kernel_rfl) ⟨Bx.c (by decide),Bx.c (by rfl),trivial⟩ λa w hS=> ?_
    obtain⟨w',g2,c2,ds,hrun,hc2,hrow,hext,hg2,hg2'⟩:=El (w:=w) (P:=Tryz.prog) (e:=40) (sz:=((aB 4)).sz) (t:=30) (tn:=3) (ty:=30) (k:=k) (bytes:=40) (inf:=Tryz.t40) (z:=(Tryz.t40.zero).getD undef) (kq:= .i64) (kn:= .i64) (by kernel_rfl) (by kernel_rfl) (by kernel_rfl) (by kernel_rfl) (by kernel_rfl) (by kernel_rfl) (by kernel_rfl) (by decide) (by decide) hk hroom
    refine N7 5 rfl (d:=some 22) (b:= .append) (ts:= #[30,3]) (ty:=30) (vs:= #[.slice none 0 0,.int .i64 (k:Int)]) hS (by kernel_rfl) _ hrun hrow hext (λx hx=>by simp[Asn.fp] at hx;subst hx;exact⟨hg2,hg2'⟩) (by simp[Asn.fp]) λa hS=> ?_
    refine bU 6 4 [0] [.as 25 (.slice (some ⟨g2,0,none⟩) 0 c2)] hS rfl (L':=[(0,.slice (some ⟨g2,0,none⟩) 0 c2)]) (As':=[.row (some ⟨g2,0,none⟩) c2 40 ((aB 4)).sz c2 ds]) (ob:=[λ_=>(0:Int)<=0/\(0:Int)<=((0:Nat):Int)/\((0:Nat):Int)<=(c2:Int),λ_=>Value.slice (slA (some ⟨g2,0,none⟩) (Int.toNat 0) c2 4) (Int.toNat ((0:Nat):Int)-Int.toNat 0) (c2-Int.toNat 0)= .slice (some ⟨g2,0,none⟩) 0 c2]) (by kernel_rfl) ⟨Bx.c ⟨by decide,by decide,by omega⟩,Bx.c (by unfold slA;split<;>simp[Addr.add]),trivial⟩ λa w hS=> ?_
    replace hS:=hS.same (B:=bC (aB 4) 40 (some ⟨g2,0,none⟩) c2 []) 0 rfl (λhA=>lP hA rfl (Nat.zero_le _) (by simp)) rfl (by simp[Asn.fp])
    refine bF ?_
    refine hK4 _ _ ?_
    refine bN (by kernel_rfl) λK7 hK7=> ?_
    refine bX 2 (by kernel_rfl) ?_
    refine bU 0 2 [4] [] hS rfl (L':=[(4,.slice (some ⟨g2,0,none⟩) 0 c2)]) (As':=[bC (aB 4) 40 (some ⟨g2,0,none⟩) c2 []]) (ob:=[]) (by kernel_rfl) trivial λa w hS=> ?_
    refine bF ?_
    refine hK7 _ _ ?_
    refine tQ (by kernel_rfl) ?_
    try simp only[Exit.then,Exit.inBlock]
    refine uB hS [.tmp 4] [] (xs:=[.slice (some ⟨g2,0,none⟩) 0 c2]) (ps:=[]) [0] [] rfl (by kernel_rfl) (λhA=>trivial) rfl (λF up=>trivial) ?_
    exact⟨some ⟨g2,0,none⟩,c2,rfl,rfl,rfl⟩
   ·refine tC (by kernel_rfl) ?_
    refine hK4 _ _ ?_
    refine bN (by kernel_rfl) λK7 hK7=> ?_
    refine bX 2 (by kernel_rfl) ?_
    refine bU 0 2 [4] [] hS rfl (L':=[(4,.slice none 0 0)]) (As':=[]) (ob:=[]) (by kernel_rfl) trivial λa w hS=> ?_
    refine bF ?_
    refine hK7 _ _ ?_
    refine tQ (by kernel_rfl) ?_
    try simp only[Exit.then,Exit.inBlock]
    replace hS:=hS.nilrow (e:=40) (sz:=((aB 4)).sz)
    refine uB hS [.tmp 4] [] (xs:=[.slice none 0 0]) (ps:=[]) [0] [] rfl (by kernel_rfl) (λhA=>trivial) rfl (λF up=>trivial) ?_
    exact⟨none,0,rfl,rfl,rfl⟩
  ·cases h
 ·cases h
def nA(n:Nat)(p1:Int):Option (List Row):=tZ 40 p1
@[reducible] def wF:Ct tab:=⟨194,[.one .nil,.one (.d (.int .i64))],[],[.one (.own 0)],[(none,.row 40 (.st 2))],List Row,λy=>(y,()),λy=>y.1,λ_=>rfl,λn x=>nA n x.1⟩
theorem EE:OkC Tryz.prog tab wF:=SD (t:= .st 2) (m:=4) (bytes:=40) aK rfl Tryz.call194 λp1 r h=>Dt p1 r h
def sM(n:Nat)(r1:(List (List Row))×Int×(List (List Row))×Int×Int×Unit->Option ((List Row))):(List (List Row))×Int×(List (List Row))×Int×Int×Unit->Option ((List Row)):=fun⟨v7,v8,v9,v10,v11,_⟩=>
 r1 (v7,v8,v9,v10,(IntKind.wrap .i64 (v11+1)),())
def fD(n:Nat):Nat->(List (List Row))×Int×Int×(List Row)×Unit->Option ((List Row)):=aW λr3 ⟨v13,v14,v15,v16,_⟩=>
 cond (decide (v15<v14))
 ((idx v13 v15).bind λx17=>
 (app 40 v16 x17).bind λl18=>
 r3 (v13,v14,(IntKind.wrap .i64 (v15+1)),l18,()))
 (some v16)
def kO(n:Nat):Nat->(List (List Row))×Int×(List (List Row))×Int×Int×Unit->Option ((List Row)):=aW λr1 ⟨v1,v2,v3,v4,v5,_⟩=>
 cond (decide (v5<v4))
 ((idx v3 v5).bind λx6=>
 jn (sM n r1) λj2=>
 cond (decide ((IntKind.wrap .i64 (v2+(x6.length:Int)))<0))
 (none)
 (j2 (v1,(IntKind.wrap .i64 (v2+(x6.length:Int))),v3,v4,v5,())))
 ((nA n v2).bind λy12=>
 fD n n (v1,(v1.length:Int),0,y12,()))
def pH(n:Nat)(p0:List (List Row)):Option ((List Row)):=
 kO n n (p0,0,p0,(p0.length:Int),0,())
@[reducible] def sN:Ct tab:=⟨182,[.one (.d (.sl (.sl (.st 2))))],[],[.one (.own 0)],[(none,.row 40 (.st 2))],((List Row)),λy=>(y,()),λy=>y.1,λ_=>rfl,λn x=>pH n x.1⟩
theorem Cd:OkC Tryz.prog tab sN:=aQ (W:=⟨Tryz.prog,tab,bE,[wF],bG,dpO,false⟩) ⟨aK,⟨EE,trivial⟩,aN⟩ (by kernel_rfl) 36 Tryz.f182 (.sq .n (.sq .n (.sq (.sq .n (.bk none (.lp ⟨[(0,.one (.d (.sl (.sl (.st 2))))),(3,.one (.d (.int .i64))),(9,.one (.d (.sl (.sl (.st 2))))),(10,.one (.d (.int .i64))),(11,.one (.d (.int .i64)))],[],[]⟩ (.sq .n (.sq .n (.sq (.bk none (.sq .n (.sq .n (.sq .n (.cd (some ⟨[(0,.one (.d (.sl (.sl (.st 2))))),(3,.one (.d (.int .i64))),(9,.one (.d (.sl (.sl (.st 2))))),(10,.one (.d (.int .i64))),(11,.one (.d (.int .i64)))],[],[]⟩) .n .n))))) .n)))))) (.sq .n (.sq (.sq .n (.bk none (.lp ⟨[(6,.one (.own 0)),(25,.one (.d (.sl (.sl (.st 2))))),(26,.one (.d (.int .i64))),(27,.one (.d (.int .i64)))],[.row 40 (.st 2)],[]⟩ .n))) .n))))) Tryz.func182 Tryz.call182 rfl (by kernel_rfl) (by kernel_rfl) (by kernel_rfl) λn x=>by kernel_rfl
theorem Du(p1:Int)(r:List (Raw 3))(h:tZ 24 p1=some r):
  Bm Tryz.prog 195 #[.slice none 0 0,.int .i64 p1] [] [] λv A P=>∃(a0:Option Addr) (c0:Nat),v= .slice a0 r.length c0/\A=[bC (aB 3) 100 a0 c0 r]/\P=[]:=by
 unfold tZ at h
 split at h
 ·rename_i h0
  split at h
  ·rename_i hroom
   obtain rfl:=someI' h
   obtain⟨k,rfl⟩:=Int.eq_ofNat_of_zero_le h0
   have hroom:room k 24=true:=hroom
   have hw:IntKind.wrap .i64 ((k:Int)-IntKind.wrap .i64 (((0:Nat):Int)-((0:Nat):Int)))=(k:Int):=by
    have hb:=Nat.le_of_ble_eq_true hroom
    rw[IntKind.wrap_i64,IntKind.wrap_i64];omega
   refine oE 27 Tryz.func195 Tryz.call195 rfl (by kernel_rfl) (by simp) λC a w hS=> ?_
   refine bN (by kernel_rfl) λK1 hK1=> ?_
   refine bX 1 (by kernel_rfl) ?_
   refine bU 0 1 [0,1,4] [] hS rfl (L':=[(0,.slice none 0 0),(1,.int .i64 (k:Int)),(4,.slice none 0 0)]) (As':=[]) (ob:=[]) (by kernel_rfl) trivial λa w hS=> ?_
   refine bF ?_
   refine hK1 _ _ ?_
   refine bN (by kernel_rfl) λK2 hK2=> ?_
   refine bN (by kernel_rfl) λK3 hK3=> ?_
   refine bX 2 (by kernel_rfl) ?_
   refine bU 0 2 [0,1,6] [] hS rfl (L':=[(0,.slice none 0 0),(1,.int .i64 (k:Int)),(6,.bool (decide ((k:Int)<0)))]) (As':=[]) (ob:=[]) (by kernel_rfl) trivial λa w hS=> ?_
   refine bF ?_
   refine hK3 _ _ ?_
   refine oP (decide ((k:Int)<0)) hS.has (by kernel_rfl) (by kernel_rfl) (by kernel_rfl) (λhq=>absurd (of_decide_eq_true hq) (by omega)) (λhq=> ?_)
   refine tC (by kernel_rfl) ?_
   refine hK2 _ _ ?_
   refine bN (by kernel_rfl) λK4 hK4=> ?_
   refine bN (by kernel_rfl) λK5 hK5=> ?_
   refine bX 8 (by kernel_rfl) ?_
   refine bU 0 8 [0,1] [.as 14 (.int .i64 (k:Int))] hS rfl (L':=[(0,.slice none 0 0),(1,.int .i64 (k:Int))]) (As':=[]) (ob:=[λ_=>Value.int .i64 (IntKind.wrap .i64 ((k:Int)-IntKind.wrap .i64 (((0:Nat):Int)-((0:Nat):Int))))= .int .i64 (k:Int)]) (by kernel_rfl) ⟨Bx.c (by rw[hw]),trivial⟩ λa w hS=> ?_
   refine bF ?_
   refine hK5 _ _ ?_
   refine bN (by kernel_rfl) λK6 hK6=> ?_
   refine bX 2 (by kernel_rfl) ?_
   refine bU 0 2 [0,1,16] [] hS rfl (L':=[(0,.slice none 0 0),(1,.int .i64 (k:Int)),(16,.bool (decide ((k:Int)>0)))]) (As':=[]) (ob:=[]) (by kernel_rfl) trivial λa w hS=> ?_
   refine bF ?_
   refine hK6 _ _ ?_
   refine oP (decide ((k:Int)>0)) hS.has (by kernel_rfl) (by kernel_rfl) (by kernel_rfl) (λhq=> ?_) (λhq=> ?_)
   ·have hk:0<k:=by have:=of_decide_eq_true hq;omega
    refine bX 10 (by kernel_rfl) ?_
    refine bU 0 5 [0,20,21] [.as 20 (.slice none 0 0)] hS rfl (L':=[(0,.slice none 0 0),(20,.slice none 0 0),(21,.int .i64 (k:Int))]) (As':=[]) (ob:=[λ_=>(0:Int)<=0/\(0:Int)<=((0:Nat):Int)/\((0:Nat):Int)<=((0:Nat):Int),λ_=>Value.slice (slA none (Int.toNat 0) 0 3) (Int.toNat ((0:Nat):Int)-Int.toNat 0) (0-Int.toNat 0)= .slice none 0 0]) (by kernel_rfl) ⟨Bx.c (by decide),Bx.c (by rfl),trivial⟩ λa w hS=> ?_
    obtain⟨w',g2,c2,ds,hrun,hc2,hrow,hext,hg2,hg2'⟩:=El (w:=w) (P:=Tryz.prog) (e:=100) (sz:=((aB 3)).sz) (t:=45) (tn:=3) (ty:=45) (k:=k) (bytes:=24) (inf:=Tryz.t100) (z:=(Tryz.t100.zero).getD undef) (kq:= .i64) (kn:= .i64) (by kernel_rfl) (by kernel_rfl) (by kernel_rfl) (by kernel_rfl) (by kernel_rfl) (by kernel_rfl) (by kernel_rfl) (by decide) (by decide) hk hroom
    refine N7 5 rfl (d:=some 22) (b:= .append) (ts:= #[45,3]) (ty:=45) (vs:= #[.slice none 0 0,.int .i64 (k:Int)]) hS (by kernel_rfl) _ hrun hrow hext (λx hx=>by simp[Asn.fp] at hx;subst hx;exact⟨hg2,hg2'⟩) (by simp[Asn.fp]) λa hS=> ?_
    refine bU 6 4 [0] [.as 25 (.slice (some ⟨g2,0,none⟩) 0 c2)] hS rfl (L':=[(0,.slice (some ⟨g2,0,none⟩) 0 c2)]) (As':=[.row (some ⟨g2,0,none⟩) c2 100 ((aB 3)).sz c2 ds]) (ob:=[λ_=>(0:Int)<=0/\(0:Int)<=((0:Nat):Int)/\((0:Nat):Int)<=(c2:Int),λ_=>Value.slice (slA (some ⟨g2,0,none⟩) (Int.toNat 0) c2 3) (Int.toNat ((0:Nat):Int)-Int.toNat 0) (c2-Int.toNat 0)= .slice (some ⟨g2,0,none⟩) 0 c2]) (by kernel_rfl) ⟨Bx.c ⟨by decide,by decide,by omega⟩,Bx.c (by unfold slA;split<;>simp[Addr.add]),trivial⟩ λa w hS=> ?_
    replace hS:=hS.same (B:=bC (aB 3) 100 (some ⟨g2,0,none⟩) c2 []) 0 rfl (λhA=>lP hA rfl (Nat.zero_le _) (by simp)) rfl (by simp[Asn.fp])
    refine bF ?_
    refine hK4 _ _ ?_
    refine bN (by kernel_rfl) λK7 hK7=> ?_
    refine bX 2 (by kernel_rfl) ?_
    refine bU 0 2 [4] [] hS rfl (L':=[(4,.slice (some ⟨g2,0,none⟩) 0 c2)]) (As':=[bC (aB 3) 100 (some ⟨g2,0,none⟩) c2 []]) (ob:=[]) (by kernel_rfl) trivial λa w hS=> ?_
    refine bF ?_
    refine hK7 _ _ ?_
    refine tQ (by kernel_rfl) ?_
    try simp only[Exit.then,Exit.inBlock]
    refine uB hS [.tmp 4] [] (xs:=[.slice (some ⟨g2,0,none⟩) 0 c2]) (ps:=[]) [0] [] rfl (by kernel_rfl) (λhA=>trivial) rfl (λF up=>trivial) ?_
    exact⟨some ⟨g2,0,none⟩,c2,rfl,rfl,rfl⟩
   ·refine tC (by kernel_rfl) ?_
    refine hK4 _ _ ?_
    refine bN (by kernel_rfl) λK7 hK7=> ?_
    refine bX 2 (by kernel_rfl) ?_
    refine bU 0 2 [4] [] hS rfl (L':=[(4,.slice none 0 0)]) (As':=[]) (ob:=[]) (by kernel_rfl) trivial λa w hS=> ?_
    refine bF ?_
    refine hK7 _ _ ?_
    refine tQ (by kernel_rfl) ?_
    try simp only[Exit.then,Exit.inBlock]
    replace hS:=hS.nilrow (e:=100) (sz:=((aB 3)).sz)
    refine uB hS [.tmp 4] [] (xs:=[.slice none 0 0]) (ps:=[]) [0] [] rfl (by kernel_rfl) (λhA=>trivial) rfl (λF up=>trivial) ?_
    exact⟨none,0,rfl,rfl,rfl⟩
  ·cases h
 ·cases h
def nB(n:Nat)(p1:Int):Option (List Kid):=tZ 24 p1
@[reducible] def wG:Ct tab:=⟨195,[.one .nil,.one (.d (.int .i64))],[],[.one (.own 0)],[(none,.row 100 (.st 3))],List Kid,λy=>(y,()),λy=>y.1,λ_=>rfl,λn x=>nB n x.1⟩
theorem EF:OkC Tryz.prog tab wG:=SD (t:= .st 3) (m:=3) (bytes:=24) aK rfl Tryz.call195 λp1 r h=>Du p1 r h
def sO(n:Nat)(r1:(List (List Kid))×Int×(List (List Kid))×Int×Int×Unit->Option ((List Kid))):(List (List Kid))×Int×(List (List Kid))×Int×Int×Unit->Option ((List Kid)):=fun⟨v7,v8,v9,v10,v11,_⟩=>
 r1 (v7,v8,v9,v10,(IntKind.wrap .i64 (v11+1)),())
def fE(n:Nat):Nat->(List (List Kid))×Int×Int×(List Kid)×Unit->Option ((List Kid)):=aW λr3 ⟨v13,v14,v15,v16,_⟩=>
 cond (decide (v15<v14))
 ((idx v13 v15).bind λx17=>
 (app 24 v16 x17).bind λl18=>
 r3 (v13,v14,(IntKind.wrap .i64 (v15+1)),l18,()))
 (some v16)
def kP(n:Nat):Nat->(List (List Kid))×Int×(List (List Kid))×Int×Int×Unit->Option ((List Kid)):=aW λr1 ⟨v1,v2,v3,v4,v5,_⟩=>
 cond (decide (v5<v4))
 ((idx v3 v5).bind λx6=>
 jn (sO n r1) λj2=>
 cond (decide ((IntKind.wrap .i64 (v2+(x6.length:Int)))<0))
 (none)
 (j2 (v1,(IntKind.wrap .i64 (v2+(x6.length:Int))),v3,v4,v5,())))
 ((nB n v2).bind λy12=>
 fE n n (v1,(v1.length:Int),0,y12,()))
def pI(n:Nat)(p0:List (List Kid)):Option ((List Kid)):=
 kP n n (p0,0,p0,(p0.length:Int),0,())
@[reducible] def sP:Ct tab:=⟨183,[.one (.d (.sl (.sl (.st 3))))],[],[.one (.own 0)],[(none,.row 100 (.st 3))],((List Kid)),λy=>(y,()),λy=>y.1,λ_=>rfl,λn x=>pI n x.1⟩
theorem Ce:OkC Tryz.prog tab sP:=aQ (W:=⟨Tryz.prog,tab,bE,[wG],bG,dpO,false⟩) ⟨aK,⟨EF,trivial⟩,aN⟩ (by kernel_rfl) 36 Tryz.f183 (.sq .n (.sq .n (.sq (.sq .n (.bk none (.lp ⟨[(0,.one (.d (.sl (.sl (.st 3))))),(3,.one (.d (.int .i64))),(9,.one (.d (.sl (.sl (.st 3))))),(10,.one (.d (.int .i64))),(11,.one (.d (.int .i64)))],[],[]⟩ (.sq .n (.sq .n (.sq (.bk none (.sq .n (.sq .n (.sq .n (.cd (some ⟨[(0,.one (.d (.sl (.sl (.st 3))))),(3,.one (.d (.int .i64))),(9,.one (.d (.sl (.sl (.st 3))))),(10,.one (.d (.int .i64))),(11,.one (.d (.int .i64)))],[],[]⟩) .n .n))))) .n)))))) (.sq .n (.sq (.sq .n (.bk none (.lp ⟨[(6,.one (.own 0)),(25,.one (.d (.sl (.sl (.st 3))))),(26,.one (.d (.int .i64))),(27,.one (.d (.int .i64)))],[.row 100 (.st 3)],[]⟩ .n))) .n))))) Tryz.func183 Tryz.call183 rfl (by kernel_rfl) (by kernel_rfl) (by kernel_rfl) λn x=>by kernel_rfl
def nY(n:Nat)(p0:aA)(p1:aA)(p2:Key):Option aA:=
 cond (p0.kind==1)
 ((pH n ([p0.rows,p1.rows]:List (List Row))).bind λy1=>
 (fZ n y1).bind λy2=>
 some y2)
 ((cO n p1.kids).bind λy3=>
 (qL n p2 y3).bind λy4=>
 (pI n ([p0.kids,y4.2]:List (List Kid))).bind λy5=>
 (eW n y5).bind λy6=>
 some y6)
@[reducible] def wH:Ct tab:=⟨152,[.st 4,.st 4,.st 1],[],[.st 4],[],aA,λy=>(y,()),λy=>y.1,λ_=>rfl,λn x=>nY n x.1 x.2.1 x.2.2.1⟩
theorem Cf:OkC Tryz.prog tab wH:=aQ (W:=⟨Tryz.prog,tab,bE,[sN,lA,eM,rI,sP,iH],bG,dpO,false⟩) ⟨aK,⟨Cd,oX,fQ,xV,Ce,jY,trivial⟩,aN⟩ (by kernel_rfl) 30 Tryz.f152 .n Tryz.func152 Tryz.call152 rfl (by kernel_rfl) (by kernel_rfl) (by kernel_rfl) λn x=>by kernel_rfl
def CV(n:Nat)(p0:aA)(p1:aA)(p2:Key):Option (aA×Int):=
 (dG n 0 ([p0,p1]:List aA)).bind λy1=>
 cond (y1 !=0)
 (some ((aA.mk 0 ([]:List Row) ([]:List Kid)),y1))
 ((wE n p0 p1).bind λy2=>
 cond (!y2)
 (some ((aA.mk 0 ([]:List Row) ([]:List Kid)),2))
 ((eL n p0).bind λy3=>
 (eL n p1).bind λy4=>
 cond (decide ((IntKind.wrap .i64 (y3+y4))>4))
 (some ((aA.mk 0 ([]:List Row) ([]:List Kid)),6))
 ((nY n p0 p1 p2).bind λy5=>
 (mO n y5).bind λy6=>
 some (y6.1,y6.2))))
@[reducible] def FC:Ct tab:=⟨111,[.st 4,.st 4,.st 1],[],[.st 4,.one (.d (.int .i64))],[],(aA×Int),λy=>(y.1,y.2,()),λy=>(y.1,y.2.1),λ_=>rfl,λn x=>CV n x.1 x.2.1 x.2.2.1⟩
theorem Ny:OkC Tryz.prog tab FC:=aQ (W:=⟨Tryz.prog,tab,bE,[dK,yP,jG,wH,nV],bG,dpO,false⟩) ⟨aK,⟨eG,Ef,kZ,Cf,sC,trivial⟩,aN⟩ (by kernel_rfl) 38 Tryz.f111 .n Tryz.func111 Tryz.call111 rfl (by kernel_rfl) (by kernel_rfl) (by kernel_rfl) λn x=>by kernel_rfl
def kQ(n:Nat)(p0:aA)(p1:Int):Option Bool:=
 jn (fun(b1:Bool)=>
 some b1) λk2=>
 cond (decide (p1>=1))
 (k2 (decide (p1<(p0.kids.length:Int))))
 (k2 false)
@[reducible] def wI:Ct tab:=⟨153,[.st 4,.one (.d (.int .i64))],[],[.one (.d .bool)],[],Bool,λy=>(y,()),λy=>y.1,λ_=>rfl,λn x=>kQ n x.1 x.2.1⟩
theorem Cg:OkC Tryz.prog tab wI:=aQ (W:=⟨Tryz.prog,tab,bE,[],bG,dpO,false⟩) ⟨aK,trivial,aN⟩ (by kernel_rfl) 14 Tryz.f153 .n Tryz.func153 Tryz.call153 rfl (by kernel_rfl) (by kernel_rfl) (by kernel_rfl) λn x=>by kernel_rfl
theorem Bu{a0:Option Addr}{c0:Nat}(p0:List (Raw 3))(p1 p2:Int)(r:List (Raw 3))(h:Dx p0 p1 p2=some r):
  Bm Tryz.prog 154 #[.slice a0 p0.length c0,.int .i64 p1,.int .i64 p2] [bC (aB 3) 100 a0 c0 p0] [] λv A P=>∃(a:Option Addr) (c:Nat),v= .slice a r.length c/\A=[bC (aB 3) 100 a c r]/\P=[]:=by
 unfold Dx at h
 split at h
 case isFalse=>cases h
 rename_i hb
 obtain⟨hb0,hb1,hb2⟩:=hb
 obtain rfl:=Sw h
 obtain⟨i,hi⟩:∃i:Nat,p1=(i:Int):=⟨p1.toNat,by omega⟩
 obtain⟨j,hj⟩:∃j:Nat,p2=(j:Int):=⟨p2.toNat,by omega⟩
 subst hi hj
 simp only[Int.toNat_natCast]
 have hij:i<=j:=by omega
 have hjl:j<=p0.length:=by omega
 refine oE 33 Tryz.func154 Tryz.call154 rfl (by kernel_rfl) (by simp) λC a w hS=> ?_
 have hc:p0.length<=c0:=(C6 (hS.st.own _ (List.mem_cons_self ..))).2.1
 refine bN (by kernel_rfl) λK1 hK1=> ?_
 refine bX 1 (by kernel_rfl) ?_
 refine bU 0 1 [0,1,2] [] hS rfl (L':=[(0,.slice a0 p0.length c0),(1,.int .i64 i),(2,.int .i64 j)]) (As':=[bC (aB 3) 100 a0 c0 p0]) (ob:=[]) (by kernel_rfl) trivial λa w hS=> ?_
 refine bF ?_
 refine hK1 _ _ ?_
 refine bN (by kernel_rfl) λK2 hK2=> ?_
 refine bX 6 (by kernel_rfl) ?_
 refine bU 0 6 [0,1,2] [] hS rfl (L':=[(0,.slice a0 p0.length c0),(1,.int .i64 i),(2,.int .i64 j)]) (As':=[bC (aB 3) 100 a0 c0 p0]) (ob:=[λ_=>0<=(i:Int)/\(i:Int)<=(j:Int)/\(j:Int)<=(p0.length:Int)/\(p0.length:Int)<=(c0:Int)]) (by kernel_rfl) ⟨Bx.c ⟨hb0,hb1,hb2,by omega⟩,trivial⟩ λa w hS=> ?_
 refine bF ?_
 refine hK2 _ _ ?_
 refine bN (by kernel_rfl) λK3 hK3=> ?_
 refine bN (by kernel_rfl) λK4 hK4=> ?_
 refine bX 3 (by kernel_rfl) ?_
 refine bU 0 3 [0,1,2,16] [] hS rfl (L':=[(0,.slice a0 p0.length c0),(1,.int .i64 i),(2,.int .i64 j),(16,.bool ((i:Int)==(j:Int)))]) (As':=[bC (aB 3) 100 a0 c0 p0]) (ob:=[]) (by kernel_rfl) trivial λa w hS=> ?_
 refine bF ?_
 refine hK4 _ _ ?_
 refine oP ((i:Int)==(j:Int)) hS.has (by kernel_rfl) (by kernel_rfl) (by kernel_rfl) (λhq=> ?_) (λhq=> ?_)
 ·have hij:i=j:=by
   have:=of_decide_eq_true (p:=(i:Int)=(j:Int)) (by simpa using hq)
   omega
  subst hij
  refine bN (by kernel_rfl) λK5 hK5=> ?_
  refine bX 2 (by kernel_rfl) ?_
  refine bU 0 2 [6] [] hS rfl (L':=[(6,.slice a0 p0.length c0)]) (As':=[bC (aB 3) 100 a0 c0 p0]) (ob:=[]) (by kernel_rfl) trivial λa w hS=> ?_
  refine bF ?_
  refine hK5 _ _ ?_
  refine tQ (by kernel_rfl) ?_
  try simp only[Exit.then,Exit.inBlock]
  refine uB hS [.tmp 6] [] (xs:=[.slice a0 p0.length c0]) (ps:=[]) [0] [] rfl (by kernel_rfl) (λhA=>trivial) rfl (λF up=>trivial) ?_
  rw[List.take_append_drop]
  exact⟨a0,c0,rfl,rfl,rfl⟩
 ·have hne:i≠j:=λe=>by
   subst e
   simp at hq
  have hlt:i<j:=by omega
  obtain⟨g,rfl⟩:=qX (hS.st.own _ (List.mem_cons_self ..)) (by omega)
  refine tC (by kernel_rfl) ?_
  refine hK3 _ _ ?_
  refine bN (by kernel_rfl) λK5 hK5=> ?_
  refine bX 3 (by kernel_rfl) ?_
  refine bU 0 3 [0,1,2,7] [] hS rfl (L':=[(0,.slice (some ⟨g,0,none⟩) p0.length c0),(1,.int .i64 i),(2,.int .i64 j),(7,.int .i64 (p0.length:Int))]) (As':=[bC (aB 3) 100 (some ⟨g,0,none⟩) c0 p0]) (ob:=[]) (by kernel_rfl) trivial λa w hS=> ?_
  refine bF ?_
  refine hK5 _ _ ?_
  refine bN (by kernel_rfl) λK6 hK6=> ?_
  refine Gm 6 8 [.val (.slice (some ⟨g,0,none⟩) p0.length c0),.val (.int .i64 i),.val (.slice (slA (some ⟨g,0,none⟩) 0 c0 ((aB 3)).sz) i c0),.val (.slice (some ⟨g,0,none⟩) p0.length c0),.val (.int .i64 j),.val (.slice (slA (some ⟨g,0,none⟩) j c0 ((aB 3)).sz) (p0.length-j) (c0-j))] [] [(0,[]),(1,[]),(2,[]),(3,[]),(4,[]),(5,[])] [] (ob:=[λ_=>(0:Int)<=0/\(0:Int)<=(i:Int)/\(i:Int)<=(c0:Int),λ_=>0<=(j:Int)/\(j:Int)<=(p0.length:Int)/\(p0.length:Int)<=(c0:Int)]) (by kernel_rfl) (by kernel_rfl) hS (by kernel_rfl) (λF N0=>by kernel_rfl) (by kernel_rfl) (by kernel_rfl) (by kernel_rfl) (by kernel_rfl) ⟨Bx.c ⟨by omega,by omega,by omega⟩,Bx.c ⟨by omega,by omega,by omega⟩,trivial⟩ ?_ ?_
  ·exact trivial
  intro V a w e hS hq
  refine tM 6 rfl 0 (.row (some ⟨g,0,none⟩) c0 100 ((aB 3)).sz (i+(p0.length-j)) ((p0.flatMap ((aB 3)).enc).take (i*((aB 3)).sz)++(p0.flatMap ((aB 3)).enc).drop (j*((aB 3)).sz))) (d:=some 26) (b:= .append) (ts:= #[45,45]) (ty:=45) (vs:= #[.slice (slA (some ⟨g,0,none⟩) 0 c0 ((aB 3)).sz) i c0,.slice (slA (some ⟨g,0,none⟩) j c0 ((aB 3)).sz) (p0.length-j) (c0-j)]) hS (by kernel_rfl) rfl (λhA=>HK (t:=45) (ty:=45) (inf:=Tryz.t100) (by kernel_rfl) (by kernel_rfl) rfl hA (vK p0) hij hjl) rfl (by simp[Asn.fp]) λa w hS=> ?_
  have hn':p0.length-(i+(p0.length-j))=j-i:=by omega
  have hs0:slA (some (⟨g,0,none⟩:Addr)) (i+(p0.length-j)) c0 ((aB 3)).sz=some ⟨g,(i+(p0.length-j))*((aB 3)).sz,none⟩:=by
   unfold slA;rw[if_neg (by omega)];simp only[Option.map_some,dJ]
  refine bU 7 1 [0,7] [] hS rfl (L':=[(0,.slice (some ⟨g,0,none⟩) (i+(p0.length-j)) c0),(7,.int .i64 (p0.length:Int))]) (As':=[.row (some ⟨g,0,none⟩) c0 100 ((aB 3)).sz (i+(p0.length-j)) ((p0.flatMap ((aB 3)).enc).take (i*((aB 3)).sz)++(p0.flatMap ((aB 3)).enc).drop (j*((aB 3)).sz))]) (ob:=[]) (by kernel_rfl) trivial λa w hS=> ?_
  refine bF ?_
  refine hK6 _ _ ?_
  refine bN (by kernel_rfl) λK7 hK7=> ?_
  refine bX 6 (by kernel_rfl) ?_
  refine bU 0 5 [0,31] [.as 31 (.slice (some ⟨g,(i+(p0.length-j))*((aB 3)).sz,none⟩) (j-i) (c0-(i+(p0.length-j))))] hS rfl (L':=[(0,.slice (some ⟨g,0,none⟩) (i+(p0.length-j)) c0),(31,.slice (some ⟨g,(i+(p0.length-j))*((aB 3)).sz,none⟩) (j-i) (c0-(i+(p0.length-j))))]) (As':=[.row (some ⟨g,0,none⟩) c0 100 ((aB 3)).sz (i+(p0.length-j)) ((p0.flatMap ((aB 3)).enc).take (i*((aB 3)).sz)++(p0.flatMap ((aB 3)).enc).drop (j*((aB 3)).sz))]) (ob:=[λ_=>0<=((i+(p0.length-j):Nat):Int)/\((i+(p0.length-j):Nat):Int)<=(p0.length:Int)/\(p0.length:Int)<=(c0:Int),λ_=>Value.slice (slA (some ⟨g,0,none⟩) (i+(p0.length-j)) c0 ((aB 3)).sz) (p0.length-(i+(p0.length-j))) (c0-(i+(p0.length-j)))= .slice (some ⟨g,(i+(p0.length-j))*((aB 3)).sz,none⟩) (j-i) (c0-(i+(p0.length-j)))]) (by kernel_rfl) ⟨Bx.c ⟨by omega,by omega,by omega⟩,Bx.c (by rw[hs0,hn']),trivial⟩ λa w hS=> ?_
  obtain⟨ds,hd1,hd2,hd3,hd4⟩:=FT (hS.st.own _ (List.mem_cons_self ..))
  replace hS:=hS.same (B:= .row (some ⟨g,0,none⟩) c0 100 ((aB 3)).sz c0 ds) 0 rfl (λ_=>hd4) rfl (by simp[Asn.fp])
  refine tM 5 rfl 0 (.row (some ⟨g,0,none⟩) c0 100 ((aB 3)).sz c0 (spl ds ((i+(p0.length-j))*((aB 3)).sz) (Builtin.zeroCells ((Tryz.t100.zero).getD undef).cells (j-i)).toList)) (d:=none) (b:= .clear) (ts:= #[45]) (ty:=0) (vs:= #[.slice (some ⟨g,(i+(p0.length-j))*((aB 3)).sz,none⟩) (j-i) (c0-(i+(p0.length-j)))]) hS (by kernel_rfl) rfl (λhA=>Ei (t:=45) (ty:=0) (inf:=Tryz.t100) (by kernel_rfl) (by kernel_rfl) (by kernel_rfl) (by kernel_rfl) (Ew (by kernel_rfl)) hA (by rw[<-Nat.add_mul];exact Nat.mul_le_mul_right _ (by omega))) rfl (by simp[Asn.fp]) λa w hS=> ?_
  have hcut:(spl ds ((i+(p0.length-j))*((aB 3)).sz) (Builtin.zeroCells ((Tryz.t100.zero).getD undef).cells (j-i)).toList).take ((i+(p0.length-j))*((aB 3)).sz)=(p0.take i++p0.drop j).flatMap ((aB 3)).enc:=by
   have hle:(i+(p0.length-j))*((aB 3)).sz<=ds.length:=by rw[hd2];exact Nat.mul_le_mul_right _ hd3
   unfold spl
   rw[List.append_assoc,List.take_left' (by rw[List.length_take];omega),hd1,List.flatMap_append,zC,zD]
  have hlen:(p0.take i++p0.drop j).length=i+(p0.length-j):=by simp;omega
  replace hS:=hS.same (B:=bC (aB 3) 100 (some ⟨g,0,none⟩) c0 (p0.take i++p0.drop j)) 0 rfl (λhA=>by
   have:=N8 hA (i+(p0.length-j)) (by omega)
   rw[hcut] at this
   unfold bC
   rw[hlen]
   exact this) rfl (by simp[Asn.fp])
  refine bF ?_
  refine hK7 _ _ ?_
  refine bN (by kernel_rfl) λK8 hK8=> ?_
  refine bX 2 (by kernel_rfl) ?_
  refine bU 0 2 [6] [] hS rfl (L':=[(6,.slice (some ⟨g,0,none⟩) (i+(p0.length-j)) c0)]) (As':=[bC (aB 3) 100 (some ⟨g,0,none⟩) c0 (p0.take i++p0.drop j)]) (ob:=[]) (by kernel_rfl) trivial λa w hS=> ?_
  refine bF ?_
  refine hK8 _ _ ?_
  refine tQ (by kernel_rfl) ?_
  try simp only[Exit.then,Exit.inBlock]
  refine uB hS [.tmp 6] [] (xs:=[.slice (some ⟨g,0,none⟩) (i+(p0.length-j)) c0]) (ps:=[]) [0] [] rfl (by kernel_rfl) (λhA=>trivial) rfl (λF up=>trivial) ?_
  exact⟨some ⟨g,0,none⟩,c0,by rw[hlen];rfl,rfl,rfl⟩
def pJ(n:Nat)(p1 p2:Int)(q0:List Kid):Option (List Kid):=Dx q0 p1 p2
@[reducible] def sQ:Ct tab:=⟨154,[.one (.own 0),.one (.d (.int .i64)),.one (.d (.int .i64))],[.row 100 (.st 3)],[.one (.own 0)],[(none,.row 100 (.st 3))],List Kid,λy=>(y,()),λy=>y.1,λ_=>rfl,λn x=>pJ n x.1 x.2.1 x.2.2.1⟩
theorem Ch:OkC Tryz.prog tab sQ:=Vz (t:= .st 3) (m:=3) aK rfl Tryz.call154 λp0 p1 p2 r h=>Bu p0 p1 p2 r h
end
end Go.Proofs.YtlcmdgpjiendmaaGreat
