import Derived.Test.YtlcmdgpjiendmaaGreatRules
namespace Go.Bur
open Go.RowKit
set_option linter.unusedVariables false
set_option linter.unusedSimpArgs false
def aaQ:Code->Bool| .seq _ _=>true|_=>false
def ZI:Code->Bool| .cond _ _ _=>true|_=>false
def ZJ:Code->Bool| .skip=>true|_=>false
def aaR:Code->Bool| .ret=>true|_=>false
def abn:Code->Option Nat| .region _ o false=>some o.size|_=>none
section
variable {P : Program} {n : Nat} {Q : Exit -> Act -> World -> Prop} {a : Act} {w : World} {c : Code}
theorem bN(hc:aaQ c=true)(h:∀K:Act->World->Prop,(∀a w,(abm c).wp P Q a w->K a w)->(abl c).wp P (Exit.then K Q) a w):c.wp P Q a w:=by
 cases c<;>first|(exact aaM _ _ rfl h)|cases hc
theorem oP{L:Env}(t:Bool)(hA:Has a n L)(hc:ZI c=true)(hk:nG L (Y4 c)=true)(hx:evL L (Y4 c)= .bool t)
  (ht:t=true->(aaK c).wp P Q a w) (hf:t=false->(aaL c).wp P Q a w):c.wp P Q a w:=by
 cases c<;>first|(exact ZE _ _ _ t hA rfl hk hx ht hf)|cases hc
theorem tC(hc:ZJ c=true)(h:Q .normal a w):c.wp P Q a w:=by
 cases c<;>first|(exact ZF rfl h)|cases hc
theorem tQ(hc:aaR c=true)(h:Q .ret a w):c.wp P Q a w:=by
 cases c<;>first|(exact aaN rfl h)|cases hc
theorem bX(j:Nat)(hc:abn c=some j)(h:wpList P (iY c) Q (sg (iY c) 0 j) a w):c.wp P Q a w:=by
 cases c with
 |region id o d=>
  cases d with
  |true=>cases hc
  |false=>obtain rfl:=someI' hc;exact Vf _ _ rfl rfl h
 |_=>cases hc
end
def aaS:Code->Option Nat| .region _ o true=>some o.size|_=>none
section
variable {P : Program} {Q : Exit -> Act -> World -> Prop} {C : Cx} {n : Nat} {a : Act} {w : World} {L : Env} {As : List Asn} {Ps : List (World -> Prop)}
theorem Gm{c:Code}(p j:Nat)(D:List DS)(ks:List Nat)(pl:List (Nat×List wP))(cl:List Nat){ob:List (World->Prop)}(hm:P.follows .mixedOrders=true)
  (hc:aaS c=some j) (hS:Sy C n a w L As Ps) (hok:LA (iY c) p=true) (hks:∀F N0,XL (iY c) p (D.map (DS.sp F N0)) ks=true)
  (hd:(List.range p).all (λk=>match iZ (iY c) k with|some d=>Nat.blt d n|none=>true)=true)
  (hv:Qi P n (iY c) p L As D pl=some (pl.map (λx=>Yq D x.1),ob)) (hvD:(match Nat.beq D.length p with|true=>pl.all λx=>isV D x.1|false=>false)=true)
  (hpl:((List.range p).all λi=>match dF cl i with|true=>true|false=>pl.any λx=>Nat.beq x.1 i&&(match dF ks i with|true=>false|false=>true))=true)
  (ho:pR (C.fr As) w ob)
  (steps:Yt (λi=>∀(V:Nat->Value) a' w',Ext w w'->Sy C n a' w' (yV (iY c) D V (aP (iY c) i)++wY (iY c) p i L) As Ps->(∀j∈aP (iY c) i,∀QQ,D[j]? =some (.q QQ)->∃A' P',QQ (V j) A' P'/\St (C.fr As) w' A' P'/\∀b∈fps A',w.heap.size<=b)->
   OW P (iY c) (Ek ks (Ext w) i) (nI (D.map (DS.sp (C.fr As) w.heap.size)) i).p Q i a' w') cl)
  (fin:∀(V:Nat->Value) a' w',Ext w w'->Sy C n a' w' (yV (iY c) D V (List.range p)++IK (iY c) p L) As Ps->(∀j,j<p->alive (iY c) p (D.map (DS.sp (C.fr As) w.heap.size)) ks j=true->∀QQ,D[j]? =some (.q QQ)->∃A' P',QQ (V j) A' P'/\St (C.fr As) w' A' P'/\∀b∈fps A',w.heap.size<=b)->
   wpList P (iY c) Q (sg (iY c) p j) a' w'):c.wp P Q a w:=by
 have hc':c= .region (Rg c) (iY c) true/\(iY c).size=j:=by
  cases c with
  |region id o d=>
   cases d with
   |true=>exact⟨rfl,someI' hc⟩
   |false=>cases hc
  |_=>cases hc
 exact aah (iY c) p D ks pl cl hm hc'.1 hS hc'.2 hok hks hd hv hvD hpl ho steps fin
end
abbrev RSf{α:Type}(F:Flat α)(a:Option Addr)(c:Nat)(l:List α):World->Prop:=λw=>RS (G:=Flat.toGoT F) w a c l
abbrev Cel(A:Addr)(cs:List Value):World->Prop:=λw=>aX w A cs
abbrev bC{α:Type}(F:Flat α)(e:Nat)(a:Option Addr)(c:Nat)(l:List α):Asn:= .row a c e F.sz l.length (l.flatMap F.enc)
section
variable {α : Type} {F : Flat α} {a : Option Addr} {c e : Nat} {l : List α} {j : Int} {x y : α} {w : World} {G : List Nat}
theorem Y6(h:(bC F e a c l).holds w):RS (G:=Flat.toGoT F) w a c l:=aag h rfl rfl rfl
theorem Og.sub{A:Asn}{p:Addr}{cs:List Value}(h:Og A p cs)(o n:Nat):Og A (p.add o) ((cs.drop o).take n):=λw hw=>(h w hw).sub o n
theorem Bx.sub{p:Addr}{cs:List Value}(h:Bx G w (Cel p cs))(o n:Nat):Bx G w (Cel (p.add o) ((cs.drop o).take n)):=λw' hk=>aX.sub (h w' hk) o n
theorem aaT{b:Option Addr}{c2:Nat}{m:List α}(h:Bx G w (RSf F b c2 m)):Bx G w (λw=>(aX w (dR b) (m.flatMap F.enc)/\(b=none->m.length=0))/\(m.flatMap F.enc).length=m.length*F.sz/\∀u∈m.flatMap F.enc,u.oneCell'=true):=
 h.mono λw h=>Yp h
theorem O1{m:List α}{C:Cx}{n:Nat}{ac:Act}{L:Env}{As:List Asn}{Ps:List (World->Prop)}{d:Nat}(h:Sy C n ac w ((d,.slice a (l.length+m.length) c)::L) (.row a c e F.sz (l.length+m.length) (l.flatMap F.enc++m.flatMap F.enc)::As) Ps){r:List α}(hr:r=l++m):
  Sy C n ac w ((d,.slice a r.length c)::L) (bC F e a c r::As) Ps:=by
 subst hr
 unfold bC
 rw[List.length_append,List.flatMap_append]
 exact h
def put(l:List α)(j:Int)(x:α):Option (List α):=if 0<=j/\j<(l.length:Int) then some (l.set j.toNat x) else none
theorem O2{r:List α}(h:put l j x=some r):0<=j/\j<(l.length:Int)/\r=l.set j.toNat x/\l.length=r.length:=by
 unfold put at h
 split at h
 ·rename_i hb
  obtain rfl:=someI' h
  exact⟨hb.1,hb.2,rfl,by simp⟩
 ·cases h
theorem XP{cs vs:List Value}(h:vs.length=cs.length):spl cs 0 vs=vs:=by simp[spl,h]
end
theorem pR.up{F F':List Nat}{w:World}(hu:∀{p:World->Prop},Bx F w p->Bx F' w p):∀{l:List (World->Prop)},pR F w l->pR F' w l
 |[],_=>trivial
 |_::_,h=>⟨hu h.1,pR.up hu h.2⟩
theorem pR.app{F:List Nat}{w:World}:∀{a b:List (World->Prop)},pR F w a->pR F w b->pR F w (a++b)
 |[],_,_,h=>h
 |_::_,_,h,k=>⟨h.1,pR.app h.2 k⟩
end Go.Bur
