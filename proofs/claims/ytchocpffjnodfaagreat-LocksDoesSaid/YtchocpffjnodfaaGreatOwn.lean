import Derived.Test.YtchocpffjnodfaaGreatCtl
namespace Go.Bur
open Go.RowKit
set_option linter.unusedVariables false
set_option linter.unusedSimpArgs false
section
variable {P : Program} {ops : Array Oper} {Q : Exit → Act → World → Prop} {C : Cx} {n : Nat} {a : Act} {w : World} {L : Env} {As : List Asn} {Ps : List (World → Prop)}
theorem r_bltS(i:Nat){j:Nat}(hij:Nat.blt i j=true){d:Option Nat}{b:Builtin}{ts:Array TypeId}{ty:TypeId}{vs:Array Value}(k:Nat){A:Asn}(B:Asn)(hS:Sy C n a w L As Ps)(h:bltAt n ops L i=some (d,b,ts,ty,vs))(hk:As[k]? =some A)
  {v:Value} (hr:A.holds w→∃w',(∀cs,(builtin b ts ty cs vs).run P w= .ok (.value v) w')∧B.holds w'∧Keep A.fp w w') (hf:B.fp=A.fp) (hn:A.fp.Nodup)
  (hK:∀a w,Sy C n a w (upd L d v) (As.set k B) Ps→wpList P ops Q (sg ops (i+1) j) a w):wpList P ops Q (sg ops i j) a w:=by
 obtain⟨w',hrun,hB,hkeep⟩:=hr (hS.st.own _ (List.mem_of_getElem? hk))
 have h1:=hS.set hk hkeep hB (λb hb=> .inl (hf▸hb)) (hf▸hn)
 refine r_blt i hij hS h hrun λa' hA'=> ?_
 exact hK a' w' ⟨hA',h1.st,h1.keep,h1.old⟩
theorem r_bltN(i:Nat){j:Nat}(hij:Nat.blt i j=true){d:Option Nat}{b:Builtin}{ts:Array TypeId}{ty:TypeId}{vs:Array Value}(hS:Sy C n a w L As Ps)(h:bltAt n ops L i=some (d,b,ts,ty,vs))
  {v:Value} {w':World} (B:Asn) (hr:∀cs,(builtin b ts ty cs vs).run P w= .ok (.value v) w') (hB:B.holds w') (he:Ext w w') (hf:∀x∈B.fp,w.heap.size≤x∧x<w'.heap.size) (hn:B.fp.Nodup)
  (hK:∀a,Sy C n a w' (upd L d v) (B::As) Ps→wpList P ops Q (sg ops (i+1) j) a w'):wpList P ops Q (sg ops i j) a w:=by
 have h1:=hS.new he hB hf hn
 refine r_blt i hij hS h hr λa' hA'=>hK a' ⟨hA',h1.st,h1.keep,h1.old⟩
theorem row_full{g:Nat}{c e sz m:Nat}{cs:List Value}(h:(Asn.row (some ⟨g,0,none⟩) c e sz m cs).holds w):∃ds,ds.take (m*sz)=cs∧ds.length=c*sz∧m≤c∧(Asn.row (some ⟨g,0,none⟩) c e sz c ds).holds w:=by
 have h':w.ownsRow 0 e sz (.slice (some ⟨g,0,none⟩) m c) m cs:=h
 rcases h'.2 with⟨hv,_⟩|⟨g',cap,cur,hv,hb,hg,hnc,hcm,hcs,htake⟩
 ·cases hv
 ·injection hv with e1 e2 e3
  injection e1 with e1
  injection e1 with e1
  subst e1 e3
  refine⟨cur.toList,htake,by simpa using hcs,hnc,⟨by simpa using hcs,.inr ⟨g,c,cur,rfl,hb,hg,Nat.le_refl _,hcm,hcs, ?_⟩⟩⟩
  rw[←hcs,←Array.length_toList,List.take_length]
theorem row_cut{g:Nat}{c e sz:Nat}{ds:List Value}(h:(Asn.row (some ⟨g,0,none⟩) c e sz c ds).holds w)(m:Nat)(hm:m≤c):(Asn.row (some ⟨g,0,none⟩) c e sz m (ds.take (m*sz))).holds w:=by
 have h':w.ownsRow 0 e sz (.slice (some ⟨g,0,none⟩) c c) c ds:=h
 rcases h'.2 with⟨hv,_⟩|⟨g',cap,cur,hv,hb,hg,hnc,hcm,hcs,htake⟩
 ·cases hv
 ·injection hv with e1 e2 e3
  injection e1 with e1
  injection e1 with e1
  subst e1 e3
  have hmc:=Nat.mul_le_mul_right sz hm
  have hd:ds=cur.toList:=by rw[←htake,←hcs,←Array.length_toList,List.take_length]
  subst hd
  refine⟨by rw[List.length_take,Array.length_toList,hcs];omega,.inr ⟨g,c,cur,rfl,hb,hg,hm,hcm,hcs,rfl⟩⟩
theorem Sy.same{A B:Asn}(hS:Sy C n a w L As Ps)(k:Nat)(hk:As[k]? =some A)(hB:A.holds w→B.holds w)(hf:B.fp=A.fp)(hn:A.fp.Nodup):Sy C n a w L (As.set k B) Ps:=
 hS.set hk (Keep.refl _ _) (hB (hS.st.own _ (List.mem_of_getElem? hk))) (λb hb=> .inl (hf▸hb)) (hf▸hn)
theorem row_block{A:Option Addr}{c e sz m:Nat}{cs:List Value}(h:(Asn.row A c e sz m cs).holds w)(hm:m≠0):∃g,A=some ⟨g,0,none⟩:=by
 have h':w.ownsRow 0 e sz (.slice A m c) m cs:=h
 rcases h'.2 with⟨hv,h0⟩|⟨g',cap,cur,hv,_⟩
 ·exact absurd h0 hm
 ·injection hv with e1
  exact⟨g',e1⟩
theorem row_len{A:Option Addr}{c e sz m:Nat}{cs:List Value}(h:(Asn.row A c e sz m cs).holds w):cs.length=m*sz∧m≤c∧c≤maxLen:=by
 have h':w.ownsRow 0 e sz (.slice A m c) m cs:=h
 refine⟨h'.1, ?_⟩
 rcases h'.2 with⟨hv,h0⟩|⟨g',cap,cur,hv,_,_,h1,h2,_⟩
 ·injection hv with e1 e2 e3
  exact⟨by omega,by rw[e3];simp⟩
 ·injection hv with e1 e2 e3
  exact⟨by omega,by omega⟩
theorem row_of_set{g c e sz:Nat}{cur:Array Value}{ds:List Value}(hg:w.heap[g]? =some (.cells cur e (0,0)))(hcm:c≤maxLen)(hl:ds.length=c*sz):(Asn.row (some ⟨g,0,none⟩) c e sz c ds).holds (w.setRow g ds.toArray):=by
 refine⟨hl,.inr ⟨g,c,ds.toArray,rfl,Nat.zero_le _,setRow_heap w g _ _ e (0,0) hg,Nat.le_refl _,hcm,by simpa using hl, ?_⟩⟩
 rw[List.toList_toArray,←hl,List.take_length]
theorem run_copyR{g:Nat}{c e sz o dLen dCap sLen sCap:Nat}{dT sT ty:TypeId}{inf:TypeInfo}{ds ss:List Value}{A:Addr}(hu:P.underlying dT=some (.slice e))(hi:P.info? e=some inf)(hs:inf.size=sz)
  (h:(Asn.row (some ⟨g,0,none⟩) c e sz c ds).holds w) (hn:ss.length=Nat.min sLen dLen*sz) (hsrc:CellsAt w A ss) (hfit:o+ss.length≤c*sz) (h1:∀v∈ss,v.oneCell'=true):
  ∃w',(∀cs,(builtin .copy #[dT,sT] ty cs #[.slice (some ⟨g,o,none⟩) dLen dCap,.slice (some A) sLen sCap]).run P w= .ok (.value (goInt (Nat.min sLen dLen))) w')∧(Asn.row (some ⟨g,0,none⟩) c e sz c (spl ds o ss)).holds w'∧Keep [g] w w':=by
 have h':w.ownsRow 0 e sz (.slice (some ⟨g,0,none⟩) c c) c ds:=h
 rcases h'.2 with⟨hv,_⟩|⟨g',cap,cur,hv,hb,hg,hnc,hcm,hcs,htake⟩
 ·cases hv
 ·injection hv with e1 e2 e3
  injection e1 with e1
  injection e1 with e1
  subst e1 e3
  have hd:ds=cur.toList:=by rw[←htake,←hcs,←Array.length_toList,List.take_length]
  subst hd
  have hlt:cur.toList.length=c*sz:=by rw[Array.length_toList,hcs]
  have hr:=run_copy_own (P:=P) (o:=o) (dT:=dT) (sT:=sT) (ty:=ty) (sLen:=sLen) (sCap:=sCap) (dLen:=dLen) (dCap:=dCap) hu hi hg (by rw[hs];exact hn) hsrc (by rw[hcs];exact hfit) h1
  have hsp:(spl cur.toList o ss).length=c*sz:=by rw[spl_length (by rw[hlt];exact hfit),hlt]
  refine⟨_,λcs=> ?_,row_of_set hg hcm hsp,Keep.grown setRow_grown (λc e=>by injection e with e;simp[e])⟩
  simp only[builtin,Sem.run_bind,hr,Result.andThen_ok,Sem.run_pure]
theorem row_cellsAt{g:Nat}{c e sz m:Nat}{ds:List Value}(h:(Asn.row (some ⟨g,0,none⟩) c e sz m ds).holds w)(o k:Nat):CellsAt w ⟨g,o,none⟩ ((ds.drop o).take k):=by
 have h':w.ownsRow 0 e sz (.slice (some ⟨g,0,none⟩) m c) m ds:=h
 have h2:CellsAt w ⟨g,0,none⟩ ds:=λj u hj=>World.ownsRow.cells (g:=g) h' rfl j u hj
 have h3:=h2.sub o k
 rwa[addr_add0] at h3
theorem row_shape{g:Nat}{c e sz m:Nat}{ds:List Value}(h:(Asn.row (some ⟨g,0,none⟩) c e sz m ds).holds w):w.shape? g=some (e,c*sz)∧∀o,w.frozen? ⟨g,o,none⟩=false:=by
 have h':w.ownsRow 0 e sz (.slice (some ⟨g,0,none⟩) m c) m ds:=h
 rcases h'.2 with⟨hv,_⟩|⟨g',cap,cur,hv,hb,hg,hnc,hcm,hcs,htake⟩
 ·cases hv
 ·injection hv with e1 e2 e3
  injection e1 with e1
  injection e1 with e1
  subst e1 e3
  constructor
  ·unfold World.shape?;rw[hg];simp[hcs]
  ·intro o;unfold World.frozen?;simp[hg]
theorem run_clear_row{g:Nat}{c e sz o k:Nat}{t ty:TypeId}{inf:TypeInfo}{z:Value}{ds:List Value}{kc:Nat}(hu:P.underlying t=some (.slice e))(hi:P.info? e=some inf)(hz:inf.zero=some z)(hzs:z.cells.size=sz)(hz1:∀v∈z.cells.toList,v.oneCell'=true)
  (h:(Asn.row (some ⟨g,0,none⟩) c e sz c ds).holds w) (hfit:o+k*sz≤c*sz):
  ∃w',(∀cs,(builtin .clear #[t] ty cs #[.slice (some ⟨g,o,none⟩) k kc]).run P w= .ok (.value (.tuple #[])) w')∧(Asn.row (some ⟨g,0,none⟩) c e sz c (spl ds o (Builtin.zeroCells z.cells k).toList)).holds w'∧Keep [g] w w':=by
 have h':w.ownsRow 0 e sz (.slice (some ⟨g,0,none⟩) c c) c ds:=h
 rcases h'.2 with⟨hv,_⟩|⟨g',cap,cur,hv,hb,hg,hnc,hcm,hcs,htake⟩
 ·cases hv
 ·injection hv with e1 e2 e3
  injection e1 with e1
  injection e1 with e1
  subst e1 e3
  have hd:ds=cur.toList:=by rw[←htake,←hcs,←Array.length_toList,List.take_length]
  subst hd
  have hzl:(Builtin.zeroCells z.cells k).toList.length=k*sz:=by simp[Builtin.zeroCells,hzs]
  have hlt:cur.toList.length=c*sz:=by rw[Array.length_toList,hcs]
  have hsp:(spl cur.toList o (Builtin.zeroCells z.cells k).toList).length=c*sz:=by rw[spl_length (by rw[hlt,hzl];exact hfit),hlt]
  cases k with
  |zero=>
   have hzero:(Builtin.zeroCells z.cells 0).toList=[]:=List.eq_nil_of_length_eq_zero (by rw[hzl];simp)
   refine⟨w,λcs=> ?_, ?_,Keep.refl _ _⟩
   ·simp[builtin,Builtin.clear_,run_underlying hu]
   ·rw[hzero];simpa[spl] using h
  |succ k=>
   have hz1':∀v∈(Builtin.zeroCells z.cells (k+1)).toList,v.oneCell'=true:=by
    intro v hv
    simp only[Builtin.zeroCells,Array.toList_map,List.mem_map,Array.toList_range,List.mem_range] at hv
    obtain⟨i,hi,rfl⟩:=hv
    have hpos:0<z.cells.size:=by
     rcases Nat.eq_zero_or_pos z.cells.size with h|h
     ·rw[h] at hi;omega
     ·exact h
    have hlt:i % z.cells.size<z.cells.size:=Nat.mod_lt _ hpos
    refine hz1 _ ?_
    rw[getElem!_pos z.cells _ hlt]
    simp
   have hst:=run_storeCells_at (P:=P) g o e (Builtin.zeroCells z.cells (k+1)).toList 0 cur w hg (by rw[hzl];omega) hz1'
   simp only[Nat.add_zero] at hst
   refine⟨w.setRow g (spl cur.toList o (Builtin.zeroCells z.cells (k+1)).toList).toArray,λcs=> ?_,row_of_set hg hcm hsp,Keep.grown setRow_grown (λc e=>by injection e with e;simp[e])⟩
   have hzr:(zeroValue e).run P w= .ok z w:=by simp[zeroValue,typeInfo,hi,hz]
   have hst2:(storeCells ⟨g,o,none⟩ (Builtin.zeroCells z.cells (k+1)).toList).run P w= .ok () (w.setRow g (spl cur.toList o (Builtin.zeroCells z.cells (k+1)).toList).toArray):=hst
   generalize w.setRow g (spl cur.toList o (Builtin.zeroCells z.cells (k+1)).toList).toArray=W at hst2⊢
   simp[builtin,Builtin.clear_,run_underlying hu,hzr,hst2]
theorem r_ext(i:Nat){j:Nat}(hij:Nat.blt i j=true){d:Option Nat}{g:FuncId}{args:Array Value}{v:Value}(hS:Sy C n a w L As Ps)(h:callAt n ops L i=some (d,g,args))
  (hr:(callFunc g args).run P w= .ok (.value v) w) (hK:∀a,Sy C n a w (upd L d v) As Ps→wpList P ops Q (sg ops (i+1) j) a w):wpList P ops Q (sg ops i j) a w:=by
 unfold callAt at h
 split at h
 ·rename_i o ho
  rw[sg_at ho hij]
  split at h
  ·rename_i c hgd hk hop
   split at h
   ·rename_i f hf
    split at h
    ·rename_i g1 first caps hv hd
     simp only[Option.some.injEq,Prod.mk.injEq] at h
     obtain⟨rfl,rfl,rfl⟩:=h
     have hs:noSel o.op=true:=by rw[hop];rfl
     have hargs:(first.toList++c.args.toList.map (evL L)++caps.toList).toArray=first++c.args.map (evL L)++caps:=by simp
     refine wpList_do (gwant_sound hS.has hgd) (v:=v) (w':=w) ?_ (hK _ ?_)
     ·rw[exec_eq hS.has hs hk]
      rw[hargs] at hr
      simp only[execOp,hop,resolve,hf,hv,Deferred.ofValue,Sem.run_bind,Sem.run_pure,Result.andThen_ok,invoke,hr]
     ·cases hdst:o.dst with
      |none=>exact⟨by simpa[upd,Act.put] using hS.has,hS.st,hS.keep,hS.old⟩
      |some d=>
       rw[hdst] at hd
       exact hS.put (Nat.blt_eq▸hd) v
    ·cases h
   ·cases h
  ·cases h
 ·cases h
theorem zeros_len{z:Array Value}{k:Nat}:(Builtin.zeroCells z k).toList.length=k*z.size:=by simp[Builtin.zeroCells]
theorem run_zeros_row{g c e sz m i k bytes t tn ty:Nat}{inf:TypeInfo}{z:Value}{kq kn:IntKind}{cs:List Value}(ht:P.underlying t=some (.slice e))(htn:P.underlying tn=some (.int kn))(hi:P.info? e=some inf)(hz:inf.zero=some z)(hs:inf.size=sz)(hzs:z.cells.size=sz)(hb:inf.bytes=bytes)(hsp:0<sz)(hbp:0<bytes)
  (h:(Asn.row (some ⟨g,0,none⟩) c e sz m cs).holds w) (him:i≤m) (hk:0<k) (hc:c<i+k) (hroom:room (i+k) bytes=true):
  ∃w' g2 c2,(∀us,(builtin .append #[t,tn] ty us #[.slice (some ⟨g,0,none⟩) i c,.int kq k]).run P w= .ok (.value (.slice (some ⟨g2,0,none⟩) (i+k) c2)) w')∧i+k≤c2∧
   (∃T,T.length=(c2-(i+k))*sz∧(Asn.row (some ⟨g2,0,none⟩) c2 e sz c2 (cs.take (i*sz)++(Builtin.zeroCells z.cells k).toList++T)).holds w')∧Ext w w'∧w.heap.size≤g2∧g2<w'.heap.size:=by
 subst hs hb
 obtain⟨hcl,hmc,hcm⟩:=row_len h
 have hbytes:(i+k)*inf.bytes≤140737488355328:=Nat.le_of_ble_eq_true hroom
 have h63:i+k≤maxLen:=by
  have:=Nat.le_trans (Nat.le_mul_of_pos_right (i+k) hbp) hbytes
  simp only[maxLen];omega
 have him':i*inf.size≤m*inf.size:=Nat.mul_le_mul_right _ him
 have hold:(Builtin.firstCells inf.size i (.slice (some ⟨g,0,none⟩) i c)).run P w.drew= .ok (cs.take (i*inf.size)).toArray w.drew:=by
  refine run_firstCells_some (P:=P) w.drew inf.size i ⟨g,0,none⟩ i c (cs.take (i*inf.size)) (by rw[List.length_take,hcl];omega) λj v hj=> ?_
  have:=row_cellsAt h 0 (i*inf.size)
  rw[List.drop_zero] at this
  exact this j v hj
 have hkb:k*inf.bytes≤281474976710656:=by
  have:k*inf.bytes≤(i+k)*inf.bytes:=Nat.mul_le_mul_right _ (by omega)
  omega
 have hrun:=Lib.run_append_grow_zeros (P:=P) w t tn ty e inf z kq kn ht htn hi hz (some ⟨g,0,none⟩) i c (cs.take (i*inf.size)) hold k hk hsp hc (by simp only[maxLen] at h63;omega) hkb (growslice_fits (by omega) hbytes)
 have hge:=grownCap_ge w (i+k) c e
 have hcm2:=grownCap_le_maxLen w (i+k) c e h63
 refine⟨w.drew.alloc (.cells ((cs.take (i*inf.size)).toArray++Builtin.zeroCells z.cells k++Builtin.zeroCells z.cells (grownCap w (i+k) c e-(i+k))) e),w.heap.size,grownCap w (i+k) c e,λus=> ?_,hge,⟨(Builtin.zeroCells z.cells (grownCap w (i+k) c e-(i+k))).toList,by rw[zeros_len,hzs], ?_⟩, ?_,Nat.le_refl _, ?_⟩
 ·simp only[builtin,Sem.run_bind,hrun,Result.andThen_ok,Sem.run_pure]
 ·have hlen:((cs.take (i*inf.size)).toArray++Builtin.zeroCells z.cells k++Builtin.zeroCells z.cells (grownCap w (i+k) c e-(i+k))).size=grownCap w (i+k) c e*inf.size:=by
   have e1:(Builtin.zeroCells z.cells k).size=k*inf.size:=by rw[size_zeroCells,hzs]
   have e2:(Builtin.zeroCells z.cells (grownCap w (i+k) c e-(i+k))).size=(grownCap w (i+k) c e-(i+k))*inf.size:=by rw[size_zeroCells,hzs]
   rw[Array.size_append,Array.size_append,e1,e2,List.size_toArray,List.length_take,hcl,Nat.min_eq_left him',←Nat.add_mul,←Nat.add_mul]
   congr 1
   omega
  have htl:(cs.take (i*inf.size)++(Builtin.zeroCells z.cells k).toList++(Builtin.zeroCells z.cells (grownCap w (i+k) c e-(i+k))).toList)=((cs.take (i*inf.size)).toArray++Builtin.zeroCells z.cells k++Builtin.zeroCells z.cells (grownCap w (i+k) c e-(i+k))).toList:=by simp
  rw[htl]
  refine⟨by rw[Array.length_toList];exact hlen,.inr ⟨w.heap.size,_,_,rfl,Nat.zero_le _,heap_alloc_new w.drew _,Nat.le_refl _,hcm2,hlen, ?_⟩⟩
  rw[←hlen,←Array.length_toList,List.take_length]
 ·exact Ext.trans (Ext.drew w) (Ext.alloc w.drew _)
 ·show w.heap.size<(w.heap.push _).size
  rw[Array.size_push];exact Nat.lt_succ_self _
theorem row_app_form{α:Type}{F:Flat α}{g c e:Nat}{ds:List Value}{r:List α}(h:(Asn.row (some ⟨g,0,none⟩) c e F.sz c ds).holds w){k:Nat}(hk:r.length=k)(hc:k≤c)(hd:ds.take (k*F.sz)=r.flatMap F.enc):(rowF F e (some ⟨g,0,none⟩) c r).holds w:=by
 have:=row_cut h k hc
 rw[hd] at this
 unfold rowF
 rw[hk]
 exact this
theorem cells_ins(X Y V Z:List Value)(h:V.length≤Y.length+Z.length):spl (spl (X++Y++Z) (X.length+V.length) Y) X.length V=X++V++Y++(X++Y++Z).drop (X.length+V.length+Y.length):=by
 have e1:List.take (X.length+V.length) (X++Y++Z)=X++List.take V.length (Y++Z):=by
  rw[List.append_assoc,List.take_length_add_append]
 have hW:(List.take V.length (Y++Z)).length=V.length:=by rw[List.length_take,List.length_append];omega
 unfold spl
 rw[e1]
 generalize List.take V.length (Y++Z)=W at hW
 generalize List.drop (X.length+V.length+Y.length) (X++Y++Z)=D
 rw[show X++W++Y++D=X++(W++(Y++D)) from by simp[List.append_assoc],List.take_left,List.drop_length_add_append,←hW,List.drop_left]
 simp[List.append_assoc]
theorem cells_new(X Y V Z T:List Value)(h:Z.length=V.length+Y.length):spl (spl (X++Z++T) X.length V) (X.length+V.length) Y=X++V++Y++T:=by
 obtain⟨Z1,Z2,rfl,h1⟩:∃Z1 Z2,Z=Z1++Z2∧Z1.length=V.length:=⟨Z.take V.length,Z.drop V.length,(List.take_append_drop _ _).symm,by rw[List.length_take];omega⟩
 have h2:Z2.length=Y.length:=by rw[List.length_append] at h;omega
 unfold spl
 rw[show X++(Z1++Z2)++T=X++(Z1++(Z2++T)) from by simp[List.append_assoc],List.take_left,List.drop_length_add_append,←h1,List.drop_left]
 rw[show X++V++(Z2++T)=(X++V)++(Z2++T) from rfl,show X.length+Z1.length=(X++V).length from by simp[h1],List.take_left,List.drop_length_add_append,←h2,List.drop_left]
end
end Go.Bur
