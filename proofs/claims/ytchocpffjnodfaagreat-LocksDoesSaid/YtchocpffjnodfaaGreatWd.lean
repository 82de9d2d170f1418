import Derived.WalkKit
import Derived.Laws.Tables
namespace Go.Bur
def NF(w:World)(k:Nat):Prop:=∀c T fr,w.heap[k]? =some (.cells c T fr)→fr=(0,0)
structure Drn(w w':World):Prop where
 drawn:w.drawn≤w'.drawn
 nf:∀k,NF w k→NF w' k
theorem Drn.refl(w:World):Drn w w:=⟨Nat.le_refl _,λ_ h=>h⟩
theorem Drn.trans{a b c:World}(h:Drn a b)(k:Drn b c):Drn a c:=⟨Nat.le_trans h.drawn k.drawn,λi hi=>k.nf i (h.nf i hi)⟩
theorem Drn.heap{w w':World}(h:w.drawn≤w'.drawn)(e:w'.heap=w.heap):Drn w w':=⟨h,λ_ hk c T fr hc=>hk c T fr (e▸hc)⟩
theorem Drn.push{w:World}{o:Obj}(ho:∀c T fr,o= .cells c T fr→fr=(0,0)):Drn w (w.alloc o):=⟨Nat.le_refl _,λk hk c T fr hc=>by
 have hc':(w.heap.push o)[k]? =some (.cells c T fr):=hc
 rw[Array.getElem?_push] at hc'
 split at hc'
 ·injection hc' with hc';exact ho c T fr hc'
 ·exact hk c T fr hc'⟩
theorem Drn.setRow{w:World}{g:Nat}{cs:Array Value}:Drn w (w.setRow g cs):=⟨Nat.le_refl _,λk hk c T fr hc=>by
 have hc':(w.heap.modify g fun| .cells _ elem frozen=> .cells cs elem frozen|o=>o)[k]? =some (.cells c T fr):=hc
 rw[Array.getElem?_modify] at hc'
 split at hc'
 ·rw[Option.map_eq_some_iff] at hc'
  obtain⟨o,h1,h2⟩:=hc'
  split at h2
  ·injection h2 with _ _ h3;rw[←h3];exact hk _ _ _ h1
  ·subst h2;exact hk _ _ _ h1
 ·exact hk _ _ _ hc'⟩
theorem Drn.drewPush{w:World}{a:Array Value}{e:TypeId}:Drn w (w.drew.alloc (.cells a e)):=(Drn.heap (w':=w.drew) (Nat.le_succ _) rfl).trans (Drn.push (w:=w.drew) (by intro c T fr h;cases h;rfl))
theorem Drn.setB{w w':World}{b:Nat}{o:Obj}(hd:w.drawn≤w'.drawn)(hh:w'.heap=w.heap.setIfInBounds b o)(ho:∀c T fr,o= .cells c T fr→fr=(0,0)):Drn w w':=⟨hd,λk hk c T fr hc=>by
 rw[hh,Array.getElem?_setIfInBounds] at hc
 split at hc
 ·split at hc
  ·injection hc with hc;exact ho c T fr hc
  ·cases hc
 ·exact hk _ _ _ hc⟩
theorem NF.lt{w:World}{k:Nat}(h:w.heap.size≤k):NF w k:=λc T fr hc=>by
 rw[Array.getElem?_eq_none h] at hc;cases hc
theorem NF.of{w:World}{k:Nat}{c:Array Value}{T:TypeId}(h:w.heap[k]? =some (.cells c T (0,0))):NF w k:=λc' T' fr hc=>by
 rw[h] at hc;injection hc with hc;injection hc with _ _ hc;exact hc.symm
end Go.Bur
