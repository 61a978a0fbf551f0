/- Texts joined. -/
import Derived.Deep.Slices
import Derived.Deep.Fields
import Derived.ChangeSame
import Derived.Lib.SmallJoins
import Derived.Below
import Derived.Test.YtkabjcanamcbeaaGreatDoorProg
import Derived.KernelRfl
import Derived.Shelf.SlIterI.Nil
import Derived.Shelf.SortM.Plain
import Derived.Shelf.SortM.SortNone
import Derived.Ground.GgzProg
import Derived.Ground.SlgmProg
import Derived.Shelf.SlMaps.Clone
import Derived.Ground.SlmcProg
import Derived.Test.YtkabjcanamcbeaaGreatDoorW1
set_option linter.unusedVariables false
set_option linter.unusedSimpArgs false
namespace Go.Vc
open Go
abbrev Rg:=Nat->Prop
def dQ (P:Hp->Rg->Prop):Prop:=∀σ σ' (F G:Rg),P σ F->σ.size<=σ'.size->(∀b,b<σ.size->F b->G b/\σ'[b]?=σ[b]?)->P σ' G
def Grow (F:Rg)(σ:Hp):Rg:=λb=>F b\/σ.size<=b
theorem dQ.mono {P:Hp->Rg->Prop}(hl:dQ P){σ:Hp}{F G:Rg}(h:P σ F)(hs:∀b,b<σ.size->F b->G b):P σ G:=hl σ σ F G h (zD _) λb a d=>⟨hs b a d,rfl⟩
theorem dQ.bU {P:Hp->Rg->Prop}(hl:dQ P){σ σ':Hp}{F T:Rg}(h:P σ F)(e:Ext T σ σ')(hn:∀b,b<σ.size->F b->¬T b):P σ' F:=
 hl σ σ' F F h e.1 λb a d=>⟨d,e.2 b a (hn b a d)⟩
theorem dQ.bK {P:Hp->Rg->Prop}(hl:dQ P){σ σ':Hp}{F:Rg}(h:P σ F)(e:bO σ σ'):P σ' F:=hl.bU h e λ_ _ _=>id
def Sep {L:Type}(C:L->Hp->Rg->Prop)(σ:Hp)(F:Rg):Prop:=∃ρ:Nat->L,∀i,C i σ λb=>F b/\ρ b=i
variable {L:Type}{C:L->Hp->Rg->Prop}{σ σ':Hp}{F:Rg}
theorem Sep.loc (hC:∀i,dQ (C i)):dQ (Sep C):=by
 rintro σ j F G ⟨ρ,h⟩ g e;exact⟨ρ,λi=>hC i _ _ _ _ (h i) g λb d a=>⟨⟨(e b d a.1).1,a.2⟩,(e b d a.1).2⟩⟩
theorem Sep.get (h:Sep C σ F)(i:L):∃G:Rg,(∀b,G b->F b)/\C i σ G:=by
 obtain⟨ρ,h⟩:=h;exact⟨_,λb a=>a.1,h i⟩
open Classical in
theorem Sep.pN (hC:∀i,dQ (C i))(h:Sep C σ F)(i j:L)(hij:i≠j):∃G H:Rg,(∀b,G b->F b)/\(∀b,H b->F b)/\(∀b,G b->¬H b)/\C i σ G/\C j σ H/\∀(σ':Hp) (C':L->Hp->Rg->Prop) (G' H':Rg),
 (∀k,k≠i->k≠j->C' k=C k)->Ext (λb=>G b\/H b) σ σ'->(∀b,G' b->(G b\/H b)\/σ.size<=b)->(∀b,H' b->(G b\/H b)\/σ.size<=b)->(∀b,G' b->¬H' b)->C' i σ' G'->C' j σ' H'->(∀k,dQ (C' k)) →
 Sep C' σ' λb=>F b/\b<σ.size/\¬(G b\/H b)\/G' b\/H' b:=by
 obtain⟨ρ,h⟩:=h;refine⟨_,_,λb a=>a.1,λb a=>a.1,λb g y=>hij (g.2.symm.trans y.2),h i,h j,λσ' C' G' H' B e w A hd x z u=>⟨λb=>if G' b then i else if H' b then j else ρ b,λk=>?_⟩⟩
 by_cases hki:k=i
 ·subst hki;exact(u _).mono x λb _ a=>⟨.inr (.inl a),zB a⟩
 by_cases hkj:k=j
 ·subst hkj;exact(u _).mono z λb _ a=>⟨.inr (.inr a),by show(if G' b then i else if H' b then k else ρ b)=k;rw[zA λd=>hd b d a,zB a]⟩
 ·rw[B k hki hkj];refine hC k _ _ _ _ (h k) e.1 λb a s=>?_;have r:¬((F b/\ρ b=i)\/F b/\ρ b=j):=by
   rintro(d|d)
   ·exact hki (s.2.symm.trans d.2)
   ·exact hkj (s.2.symm.trans d.2)
  have p:¬G' b:=λd=>by
   rcases w b d with g|g
   ·exact r g
   ·omega
  have m:¬H' b:=λd=>by
   rcases A b d with g|g
   ·exact r g
   ·omega
  exact⟨⟨.inl ⟨s.1,a,r⟩,by show(if G' b then i else if H' b then j else ρ b)=k;rw[zA p,zA m];exact s.2⟩,e.2 b a r⟩
def iH (p:Nat)(cs:List Value):Hp->Rg->Prop:=λσ F=>F p/\bX σ p cs
theorem iH.loc (p:Nat)(cs:List Value):dQ (iH p cs):=λσ g F G h d b=>by
 obtain⟨e,a⟩:=h.2;have:=b p h.2.lt h.1;exact⟨this.1,e,this.2.trans a⟩
def j4 (r:Nat)(k:IntKind)(c:CK)(l:List (Int×c.T)):Hp->Rg->Prop:=λσ F=>F r/\dK σ r k c l
theorem j4.loc (r:Nat)(k:IntKind)(c:CK)(l:List (Int×c.T)):dQ (j4 r k c l):=λσ i F G h g e=>by
 have:=e r h.2.lt h.1;obtain⟨d,a,b,rest⟩:=h.2;exact⟨this.1,d,a,this.2.trans b,rest⟩
def y9:Hp->Rg->Prop:=λ_ _=>True
theorem y9.loc:dQ y9:=λ_ _ _ _ _ _ _=>trivial
def xo (s:Sl)(sz:Nat)(xs:List Value):Hp->Rg->Prop:=λσ F=>Own F σ s sz xs
theorem xo.loc (s:Sl)(sz:Nat)(xs:List Value):dQ (xo s sz xs):=λσ d F G h g a=>by
 refine⟨h.1,h.2.imp id ?_⟩;rintro⟨b,cs,hq,ha,⟨e,he⟩,r⟩;have:=a b (bX.lt ⟨e,he⟩) hq;exact⟨b,cs,this.1,ha,⟨e,this.2.trans he⟩,r⟩
def bR (s:Sl)(sz:Nat)(xs:List Value):Hp->Rg->Prop:=λh F=>xs.length=s.len*sz/\(s.len=0/\s.cap=0\/∃b cs,F b/\s.a=some ⟨b,0,none⟩/\bX h b cs/\s.len<=s.cap/\cs.length=s.cap*sz/\cs.take xs.length=xs)
theorem bR.loc (s:Sl)(sz:Nat)(xs:List Value):dQ (bR s sz xs):=λσ d F G h g a=>by
 refine⟨h.1,h.2.imp id ?_⟩;rintro⟨b,cs,hq,ha,⟨e,he⟩,r⟩;have:=a b (bX.lt ⟨e,he⟩) hq;exact⟨b,cs,this.1,ha,⟨e,this.2.trans he⟩,r⟩
theorem _root_.aI{s n xs}:dQ (bR s n xs):=bR.loc _ _ _
theorem bR.nil (h:Hp)(F:Rg)(sz:Nat)(a:Option Addr):bR ⟨a,0,0⟩ sz [] h F:=⟨by simp,.inl ⟨rfl,rfl⟩⟩
theorem bR.rd {h:Hp}{F:Rg}{s:Sl}{sz:Nat}{xs:List Value}(ho:bR s sz xs h F):Rd h s.a xs:=by
 rcases ho.2 with⟨hl,_⟩|⟨b,cs,_,ha,hb,_,_,ht⟩
 ·have:=ho.1;rw[hl]at this;simp at this;subst this;cases s.a<;>simp[Rd]
 ·rw[ha];intro j v hv;rw[add_lit,hb.cell,zG];rw[←ht,zY]at hv;split at hv
  ·exact hv
  ·cases hv
theorem bR.app {F:Rg}{h:Hp}{s x:Sl}{sz bytes e:Nat}{zs xs ys:List Value}{K:Sl->Hp->Prop}(ho:bR s sz xs h F)(hz:zs.length=sz)
 (hy:ys.length=x.len*sz) (hr:Rd h x.a ys) (h1:∀v∈ys,dN v=true) (hb:(s.len+x.len)*bytes<=2^46) (hc:s.len+x.len<=2^62)
 (hx:0<x.len) (hK:∀s' h',s'.len=s.len+x.len->Ext F h h'->bR s' sz (xs++ys) h' (Grow F h)->K s' h'):App s sz bytes e zs x h K:=by
 refine⟨xs,ys,ho.1,hy,ho.rd,hr,h1,hb,hc,λg=>?_,λp c m=>?_⟩
 ·rcases ho.2 with⟨hl,hcap⟩|⟨b,cs,hQ,ha,hk,hle,hcl,ht⟩
  ·omega
  ·rw[ha];simp only;rw[add_lit];have r:(s.len+x.len)*sz<=s.cap*sz:=lB _ g;rw[zk]at r;have d:=ho.1;refine Ub hk O λh' j i=>hK _ h' rfl (Ext.eP j hQ) ⟨?_,.inr ⟨b,_,.inl hQ,rfl,i,g,?_,?_⟩⟩
   ·simp[d,hy,zk]
   ·simp;omega
   ·rw[zK,d];rw[zG,zq,←d];rw[ht,pd aA,ng aA]
 ·refine hK _ _ rfl (Ext.push _ _ _) ⟨by simp[ho.1,hy,zk],.inr ⟨h.size,xs++ys++(List.replicate (c-(s.len+x.len)) zs).flatten,.inr (zD _),rfl,⟨e,by simp⟩,m,?_,?_⟩⟩
  ·simp only[zK,vC,tJ,vf,ho.1,hy,hz,←zk]
   congr 1;omega
  ·rw[pd aA,ng aA]
theorem bR.st {F:Rg}{h:Hp}{s:Sl}{sz:Nat}{xs:List Value}(ho:bR s sz xs h F){j:Nat}(hj:j<xs.length){v:Value}{K:aP}{a:Addr}(ha:∀b,s.a=some ⟨b,0,none⟩->a=⟨b,j,none⟩)
 (hK:∀h',Ext F h h'->bR s sz (xs.set j v) h' F->K h'):dL a v h K:=by
 rcases ho.2 with⟨hl,_⟩|⟨b,cs,hq,hsa,hb,hle,hcl,ht⟩
 ·have:=ho.1;rw[hl]at this;simp at this;subst this;simp at hj
 ·rw[ha b hsa];have d:j<cs.length:=by
   have:(cs.take xs.length).length=xs.length:=by rw[ht]
   rw[zO]at this;omega
  refine⟨by rw[hb.cell,cM d];rfl,hb.oO,hK _ (Ext.ku (F:=F) hq) ⟨by simp[ho.1],.inr ⟨b,_,hq,hsa,hb.set v,hle,by simp[hcl],?_⟩⟩⟩;rw[oR,List.take_set,ht]
def cR (s:Sl)(sz:Nat)(xs:List Value):Hp->Rg->Prop:=λσ F=>xs.length=s.len*sz/\(xs=[]\/∃b o cs,F b/\s.a=some ⟨b,o,none⟩/\m8 σ b cs/\∀j,j<xs.length->cs[o+j]?=xs[j]?)
theorem cR.loc (s:Sl)(sz:Nat)(xs:List Value):dQ (cR s sz xs):=λσ d F G h g a=>by
 refine⟨h.1,h.2.imp id ?_⟩;rintro⟨b,o,cs,hq,ha,⟨e,z,he⟩,r⟩;have:=a b (m8.lt ⟨e,z,he⟩) hq;exact⟨b,o,cs,this.1,ha,⟨e,z,this.2.trans he⟩,r⟩
theorem _root_.aH{s n xs}:dQ (cR s n xs):=cR.loc _ _ _
theorem bR.fX {Q:Rg}{h:Hp}{s:Sl}{sz:Nat}{xs:List Value}(ho:bR s sz xs h Q):cR s sz xs h Q:=by
 refine⟨ho.1,?_⟩;rcases ho.2 with⟨hl,_⟩|⟨b,cs,hq,ha,hb,_,_,ht⟩
 ·left;have:=ho.1;rw[hl]at this;simpa using this
 ·refine .inr ⟨b,0,cs,hq,ha,hb.q,λj a=>?_⟩;rw[←ht,zY,zG,zB a]
theorem cR.cell {s:Sl}{sz:Nat}{xs:List Value}(h:cR s sz xs σ F){j:Nat}{v:Value}(hv:xs[j]?=some v):∃b o,s.a=some ⟨b,o,none⟩/\Vc.cell σ ⟨b,o+j,none⟩=some v:=by
 have d:=(cQ.1 hv).1;rcases h.2 with h0|⟨b,o,cs,_,ha,hb,hc⟩
 ·subst h0;simp at d
 ·exact⟨b,o,ha,by rw[hb.cell,hc j d];exact hv⟩
theorem cR.pa {s:Sl}{k:IntKind}{xs:List Int}(h:cR s 1 (xs.map (Value.int k)) σ F){i:Nat}{x:Int}(hx:xs[i]?=some x){K:Int->Prop}(hK:K x):Ix s.a s.len (i:Int) 1 λa=>fF k a σ K:=by
 have m:=(cQ.1 hx).1;obtain⟨b,o,g,e⟩:=h.cell (j:=i) (v:=.int k x) (by simp[hx]);have d:=h.1;simp at d;rw[g];refine ix O O ?_;rw[add_lit];exact nI (by simpa using e) hK
theorem cR.rd {s:Sl}{sz:Nat}{xs:List Value}(h:cR s sz xs σ F):Rd σ s.a xs:=by
 cases ha:s.a with
 | none=>
  rcases h.2 with h0|⟨b,o,cs,_,d,_⟩
  ·exact h0
  ·rw[ha]at d;cases d
 | some a=>
  intro j v hv;obtain⟨b,o,d,e⟩:=h.cell hv;rw[ha]at d;cases d;rw[add_lit];exact e
end Go.Vc
namespace Go.Vc
open Go Go.ChangeShapes Go.WideShapes Go.Deep Go.RowKit
def Yes (σ:Hp):Bool->Hp->Prop:=λb σ'=>b=true/\bO σ σ'
theorem Ts {P:Program}{f:Nat}{args:Array Value}{w:World}(h:We P f args [.one .b] w.heap (Yes w.heap)):Calls P f args w λe w'=>e=.returned (.bool true)/\Below w.heap.size w w':=by
 refine(h w rfl).mono ?_;rintro e w' ⟨a,vs,rfl,g⟩
 match vs,g with
 | [v],g=>
  obtain⟨x,rfl,i,j⟩:=g;have d:x=true:=i;subst d;exact⟨rfl,⟨a.1,a.2.1,a.2.2.1,a.2.2.2,λk m=>j.2 k m id⟩⟩
def gB (h:Hp)(l:Sl)(xs:List (Int×Int×Int)):Prop:=l.len=xs.length/\∀i x y z,xs[i]?=some (x,y,z)->∃b o,l.a=some ⟨b,o,none⟩/\b<h.size ∧
 cell h ⟨b,o+i*3,none⟩=some (.int .i64 x)/\cell h ⟨b,o+i*3+1,none⟩=some (.int .i64 y)/\cell h ⟨b,o+i*3+2,none⟩=some (.int .i64 z)
theorem JK {h:Hp}{a:Addr}{v:Value}(hc:cell h a=some v):a.block<h.size/\a.spot=none:=by
 unfold cell at hc;split at hc
 ·rename_i heq;refine⟨(mA.1 heq).1,?_⟩;cases hs:a.spot with
  | none=>rfl
  | some s=>rw[hs]at hc;simp at hc
 ·cases hc
end Go.Vc
namespace Go.Vc
open Go
theorem dS {k:IntKind}{b o i:Nat}{h:Hp}{x:Int}{K:Int->Prop}(hc:cell h ⟨b,o+i,none⟩=some (.int k x))(hK:K x):fF k (Addr.add ⟨b,o,none⟩ i) h K:=by
 rw[add_lit];exact nI hc hK
theorem cA {e:Int}{m:Nat}{K:Int->Prop}(he:e=(m:Int))(hm:m<=4611686018427387904)(hK:K (m:Int)):Ar .i64 e K:=by
 rw[he];exact ar O O hK
theorem D3 {k:Nat}(h:k<=62):min ((k:Int).toNat) IntKind.i64.bits=k:=by
 have:IntKind.i64.bits=64:=rfl;rw[this];omega
theorem yu {k:IntKind}{e:Int}{K:Int->Prop}(hK:K (k.wrap e)):Ar k e K:=hK
variable {σ:Hp}{b o i j:Nat}{cs:List Value}
theorem bX.rI (hb:bX σ b cs){k:IntKind}{x:Int}{K:Int->Prop}(hc:cs[o+i]?=some (.int k x))(hK:K x):fF k (Addr.add ⟨b,o,none⟩ i) σ K:=by
 rw[add_lit];exact nI (hb.cell.trans hc) hK
theorem bX.rB (hb:bX σ b cs){x:Bool}{K:Bool->Prop}(hc:cs[o+i]?=some (.bool x))(hK:K x):kF (Addr.add ⟨b,o,none⟩ i) σ K:=by
 rw[add_lit];exact lO (hb.cell.trans hc) hK
theorem bX.rP (hb:bX σ b cs){x:Option Addr}{K:Option Addr->Prop}(hc:cs[o+i]?=some (.pointer x))(hK:K x):fZ (Addr.add ⟨b,o,none⟩ i) σ K:=by
 rw[add_lit];exact s7 (hb.cell.trans hc) hK
theorem bX.rM (hb:bX σ b cs){x:Option Nat}{K:Option Nat->Prop}(hc:cs[o+i]?=some (.map x))(hK:K x):mQ (Addr.add ⟨b,o,none⟩ i) σ K:=by
 rw[add_lit];exact I0 (hb.cell.trans hc) hK
theorem bX.rS (hb:bX σ b cs){a:Option Addr}{n c:Nat}{K:Sl->Prop}(hc:cs[o+i]?=some (.slice a n c))(hK:K ⟨a,n,c⟩):jk (Addr.add ⟨b,o,none⟩ i) σ K:=by
 rw[add_lit];exact oA (hb.cell.trans hc) hK
theorem bX.gF (hb:bX σ b cs){k:IntKind}{x:Int}{K:Int->Prop}(hc:cs[o+i+j]?=some (.int k x))(hK:K x):fF k (Addr.add (Addr.add ⟨b,o,none⟩ i) j) σ K:=by
 rw[add_lit,add_lit];exact nI (hb.cell.trans hc) hK
theorem bX.xv (hb:bX σ b cs){k:IntKind}{x:Int}{K:Int->Prop}(hc:cs[o]?=some (.int k x))(hK:K x):fF k ⟨b,o,none⟩ σ K:=nI (hb.cell.trans hc) hK
theorem bX.vE (hb:bX σ b cs){x:Option Addr}{K:Option Addr->Prop}(hc:cs[o]?=some (.pointer x))(hK:K x):fZ ⟨b,o,none⟩ σ K:=s7 (hb.cell.trans hc) hK
theorem bX.Am (hb:bX σ b cs){a:Option Addr}{n c:Nat}{K:Sl->Prop}(hc:cs[o]?=some (.slice a n c))(hK:K ⟨a,n,c⟩):jk ⟨b,o,none⟩ σ K:=oA (hb.cell.trans hc) hK
theorem bX.s1 (hb:bX σ b cs){v:Value}(ho:o+i<cs.length){K:aP}(hK:∀h',QD σ h' b->bX h' b (cs.set (o+i) v)->K h'):dL (Addr.add ⟨b,o,none⟩ i) v σ K:=by
 rw[add_lit];refine⟨?_,hb.oO,hK _ ⟨Vd _ _ _,λc a=>VP a⟩ (hb.set v)⟩;rw[hb.cell,cM ho];rfl
theorem bX.s0 (hb:bX σ b cs){v:Value}(ho:o<cs.length){K:aP}(hK:∀h',QD σ h' b->bX h' b (cs.set o v)->K h'):dL ⟨b,o,none⟩ v σ K:=by
 refine⟨?_,hb.oO,hK _ ⟨Vd _ _ _,λc a=>VP a⟩ (hb.set v)⟩;rw[hb.cell,cM ho];rfl
theorem nw {e:Nat}{K:Addr->Hp->Prop}(hK:∀h',h'.size=σ.size+1->bO σ h'->bX h' σ.size cs->K ⟨σ.size,0,none⟩ h'):Nw (.cells cs.toArray e (0,0)) σ K:=
 hK _ aA (Ext.push _ _ _) (bX.push _ _ _)
theorem tL {K:Addr->Hp->Prop}(hK:∀h',h'.size=σ.size+1->bO σ h'->(∀(k:IntKind) (c:CK),dK h' σ.size k c [])->K ⟨σ.size,0,none⟩ h'):Nw (.map #[] 0) σ K:=
 hK _ aA (Ext.push _ _ _) λk c=>dK.push _ _ _
theorem mk {n bytes e:Nat}{zs:List Value}{K:Sl->Hp->Prop}(h1:bytes*n<=1073741824)(h2:n<=1073741824)
 (hK:∀h',h'.size=σ.size+1->bO σ h'->bX h' σ.size (List.replicate n zs).flatten->K ⟨some ⟨σ.size,0,none⟩,n,n⟩ h'):Mk (n:Int) (n:Int) bytes e zs σ K:=by
 refine⟨O,ri _,?_,O,?_⟩
 ·have:((bytes:Int)*(n:Int))=((bytes*n:Nat):Int):=by simp
  rw[this];omega
 ·simp only[dC];exact nw hK
theorem jd {s:Sl}{sz lo hi mx:Nat}{K:Sl->Prop}(h1:lo<=hi)(h2:hi<=mx)(h3:mx<=s.cap)(hK:K ⟨if mx=lo then s.a else s.a.map (·.add (lo*sz)),hi-lo,mx-lo⟩):eW s sz (lo:Int) (hi:Int) (mx:Int) K:=
 ⟨O,O,O,O,by simpa using hK⟩
theorem j3 (a b:Nat):(((a:Nat):Int)==((b:Nat):Int))=(a==b):=by rw[nG];simp;omega
theorem uC (a b:Nat):(((a:Nat):Int) != ((b:Nat):Int))=(a != b):=by rw[bne,bne,j3]
theorem vd (a:Nat):(((a:Nat):Int)==0)=(a==0):=j3 a 0
theorem Bw (a:Nat):(((a:Nat):Int) != 0)=(a != 0):=uC a 0
def ints (l:List Nat):List Value:=l.map λ(x:Nat)=>Value.int .i64 (x:Int)
theorem QE (l:List Nat):(ints l).length=l.length:=by simp[ints]
theorem EO {l:List Nat}{i x:Nat}(h:l[i]?=some x):(ints l)[i]?=some (.int .i64 (x:Int)):=by simp[ints,h]
theorem Vk (l m:List Nat):ints (l++m)=ints l++ints m:=by simp[ints]
theorem cR.oI {s:Sl}{F:Rg}{xs:List Nat}(h:cR s 1 (ints xs) σ F){i x:Nat}(hx:xs[i]?=some x){K:Int->Prop}(hK:K (x:Int)):Ix s.a s.len (i:Int) 1 λa=>fF .i64 a σ K:=by
 have j:=(cQ.1 hx).1;obtain⟨b,o,g,e⟩:=h.cell (EO hx);have d:=h.1;rw[QE]at d;rw[g];refine ix O O ?_;rw[add_lit];exact nI (by simpa using e) hK
theorem cR.jU {s:Sl}{F:Rg}{xs:List Nat}(h:cR s 1 (ints xs) σ F):s.len=xs.length:=by
 have:=h.1;rw[QE]at this;omega
theorem cR.nil (F:Rg)(a:Option Addr)(c sz:Nat):cR ⟨a,0,c⟩ sz [] σ F:=⟨by simp,.inl rfl⟩
theorem bX.fX {s:Sl}{sz:Nat}{xs:List Value}(hb:bX σ b cs)(ha:s.a=some ⟨b,o,none⟩)(hl:xs.length=s.len*sz)(hc:∀j,j<xs.length->cs[o+j]?=xs[j]?):cR s sz xs σ (· = b):=
 ⟨hl,.inr ⟨b,o,cs,rfl,ha,hb.q,hc⟩⟩
theorem Nq {a xa:Option Addr}{xc sz bytes e:Nat}{zs:List Value}{K:Sl->Hp->Prop}(hK:K ⟨a,0,0⟩ σ):App ⟨a,0,0⟩ sz bytes e zs ⟨xa,0,xc⟩ σ K:=by
 refine⟨[],[],by simp,by simp,by cases a<;>simp[Rd],by cases xa<;>simp[Rd],by simp,by simp,by simp,λ_=>?_,λh=>absurd (zD 0) h⟩
 cases a
 ·exact hK
 ·exact hK
theorem bR.push {F:Rg}{s:Sl}{sz bytes e t:Nat}{zs xs vs:List Value}{K:Sl->Hp->Prop}(ho:bR s sz xs σ F)(hF:∀b,σ.size<=b->F b)(hz:zs.length=sz)(hv:vs.length=sz)(h1:∀v∈vs,dN v=true)
 (hb:bytes<=1000) (hl:s.len<=1000000) (hK:∀s' h',s'.len=s.len+1->Ext F σ h'->bR s' sz (xs++vs) h' F->K s' h') :
 Nw (.cells vs.toArray t (0,0)) σ λn v=>App s sz bytes e zs ⟨some n,1,1⟩ v K:=by
 refine nw λv r m d=>?_;have g:=(bR.loc s sz xs).bK ho m;refine g.app (ys:=vs) hz (by simp[hv]) ?_ h1 ?_ ?_ nA λs' h' i w a=>hK s' h' i (m.to.trans w) ?_
 ·intro j u hu;rw[add_lit,zG,d.cell];exact hu
 ·simp only;have:(s.len+1)*bytes<=1000001*1000:=kO O hb;omega
 ·simp only;omega
 ·exact aI.mono a λb _ p=>by
   rcases p with h|h
   ·exact h
   ·exact hF b O
theorem bR.jU {F:Rg}{s:Sl}{xs:List Nat}(h:bR s 1 (ints xs) σ F):s.len=xs.length:=by
 have:=h.1;rw[QE]at this;omega
theorem G6 {F:Rg}{s:Sl}{sz bytes e:Nat}{zs vs:List Value}{R:Sl->Hp->Prop}(h:cR s sz vs σ F)(hpos:0<sz)(hz:zs.length=sz)(h1:∀v∈vs,dN v=true)(hb:bytes<=1000)(hl:s.len<=1000000)
 (hR:∀s' σ',s'.len=s.len->bO σ σ'->bR s' sz vs σ' (λb=>σ.size<=b)->R s' σ') :
 If s.a.isNone (R ⟨none,0,0⟩ σ) (Nw (.cells #[] e (0,0)) σ λn v=>App ⟨some n,0,0⟩ sz bytes e zs s v λt v1=>R t v1):=by
 have d:=h.1;refine cU (λm=>?_) λm=>?_
 ·have C:vs=[]:=by
   rcases h.2 with g|⟨b,o,cs,_,ha,_⟩
   ·exact g
   ·rw[ha]at m;cases m
  subst C;have g:s.len=0:=by
   have y:s.len*sz=0:=by simpa using d.symm
   rcases uL.1 y with h|h
   ·exact h
   ·omega
  exact hR _ _ (by simp[g]) (Ext.refl _ _) (bR.nil _ _ _ _)
 ·refine nw (cs:=[]) λv z r B=>?_;have x:=(cR.loc s sz vs).bK h r;rcases wR s.len with g|g
  ·obtain⟨a,n,c⟩:=s;simp only at g;subst g;have:vs=[]:=by simpa using d
   subst this;exact Nq (hR _ _ rfl r (bR.nil _ _ _ _))
  ·refine(bR.nil v (λb=>σ.size<=b) sz (some ⟨σ.size,0,none⟩)).app (ys:=vs) hz d x.rd h1 ?_ ?_ g λs' A p D j=>hR s' A (by simpa using p) ?_ ?_
   ·simp only[zG];have:s.len*bytes<=1000000*1000:=kO hl hb;omega
   ·simp only;omega
   ·exact Ext.fresh r D λi w=>w
   ·rw[oZ]at j;exact aI.mono j λb _ u=>by
     rcases u with h|h
     ·exact h
     ·omega
def Cut (F:Rg)(σ:Hp):Rg:=λb=>F b/\b<σ.size
theorem dQ.cut {P:Hp->Rg->Prop}(hl:dQ P){F:Rg}(h:P σ F):P σ (Cut F σ):=hl.mono h λb a d=>⟨d,a⟩
theorem Ext.cut {F:Rg}{σ':Hp}(e:Ext (Cut F σ) σ σ'):Ext F σ σ':=⟨e.1,λb d g=>e.2 b d λa=>g a.1⟩
theorem Ext.sub {F G:Rg}{a b:Hp}(e:Ext F a b)(h:∀i,F i->G i):Ext G a b:=e.mono λi _ d=>h i d
theorem QD.ext {h h':Hp}{r:Nat}(ho:QD h h' r):Ext (· = r) h h':=Ext.eP ho rfl
theorem Ext.iM {F:Rg}{a b c:Hp}(e:Ext F a b)(k:Ext (Grow F a) b c):Ext F a c:=
 ⟨zI e.1 k.1,λi g d=>(k.2 i (vn g e.1) λj=>by rcases j with h|h;exact d h;omega).trans (e.2 i g d)⟩
theorem Ext.fC {F G:Rg}{a b c:Hp}(e:Ext F a b)(k:Ext G b c)(h:∀i,G i->F i\/a.size<=i):Ext F a c:=e.iM (k.sub h)
theorem HR {P:Program}{f:Nat}{first caps:Array Value}{args:List Value}{all:Array Value}{rs:List SK}{R:eV (iI rs)}(hok:Hi P f=true)(he:first++args.toArray++caps=all)
 (hc:We P f all rs σ R):VU P ⟨f,first,caps⟩ args rs σ R:=⟨hok,by unfold Lu;simp only;rw[he];exact hc⟩
theorem QI {h h':Hp}{F:Nat->Prop}(e:Ext F h h'){b o:Nat}(hb:b<h.size)(hF:¬F b):cell h' ⟨b,o,none⟩=cell h ⟨b,o,none⟩:=by
 unfold cell;rw[e.2 b hb hF]
theorem AJ {h h':Hp}{l:Sl}{xs:List (Int×Int×Int)}{F:Nat->Prop}(ha:gB h l xs)(e:Ext F h h')(hF:∀b,F b->∀o,l.a≠some ⟨b,o,none⟩):gB h' l xs:=by
 refine⟨ha.1,λi x y z p=>?_⟩;obtain⟨b,o,j,d,r,s,m⟩:=ha.2 i x y z p;have g:¬F b:=λu=>hF b u o j;exact⟨b,o,j,vn d e.1,by rw[QI e d g];exact r,by rw[QI e d g];exact s,by rw[QI e d g];exact m⟩
theorem Yc {h h':Hp}{l:Sl}{xs:List (Int×Int×Int)}(ha:gB h l xs)(e:bO h h'):gB h' l xs:=AJ ha e λ_ h=>h.elim
theorem U3 {h:Hp}{l:Sl}{xs:List (Int×Int×Int)}(ha:gB h l xs){i:Nat}{x y z:Int}(hx:xs[i]?=some (x,y,z)){K:Int->Int->Int->Prop}(hK:K x y z) :
 Ix l.a l.len (i:Int) 3 λa=>fF .i64 (a.add 0) h λu=>fF .i64 (a.add 1) h λv=>fF .i64 (a.add 2) h λw=>K u v w:=by
 obtain⟨b,o,g,p,e,j,d⟩:=ha.2 i x y z hx;have m:=(cQ.1 hx).1;rw[g];refine ix O (by rw[ha.1];omega) ?_;rw[add_lit];refine dS (by simpa using e) (dS (by simpa using j) (dS (by simpa using d) hK))
end Go.Vc
namespace Go.Proofs
open Go.Vc
abbrev _root_.R1:=@We Tryz.prog
abbrev _root_.R2:=Option Addr
def WV.c (a b c d e f:Int)(g:Sl)(h:Hp)(i:aO):Prop:=R1 8 #[.agg #[.I a,.I b,.I c,.I d,.I e,.I f],.slice g.a g.len g.cap] [.one .b] h i
def Xg.c (a:Hp)(b:aO):Prop:=R1 13 #[] [.one .b] a b
def Z1.c (a:Sl)(b c:Int)(d:Hp)(e:Int->Int->Hp->Prop):Prop:=R1 14 #[.slice a.a a.len a.cap,.I b,.I c] [.I,.I] d e
def WX.c (a:Int)(b:Hp)(c:Sl->Int->Hp->Prop):Prop:=R1 16 #[.I a] [.one .s,.I] b c
def WT.c (a b c:Int)(d:Hp)(e:aN):Prop:=R1 18 #[.agg #[.I a,.I b,.I c]] [.I] d e
def QK.c (a:R2)(b:Hp)(c:Option Addr->Int->Hp->Prop):Prop:=R1 19 #[.pointer a] [.one .p,.I] b c
def XD.c (a:R2)(b c d:Int)(e:Hp)(f:Int->Int->Hp->Prop):Prop:=R1 20 #[.pointer a,.I b,.I c,.I d] [.I,.I] e f
def Zc.c (a:R2)(b c:Int)(d:Hp)(e:aN):Prop:=R1 23 #[.pointer a,.I b,.I c] [.I] d e
def XG.c (a:R2)(b:Hp)(c:Int->Int->Int->Int->Int->Int->Int->Int->Int->Int->Hp->Prop):Prop:=R1 24 #[.pointer a] [.agg [bN,bN,bN,bN,bN,bN,bN,bN,bN,bN]] b c
def XS.c (a:R2)(b:Hp)(c:Sl->Hp->Prop):Prop:=R1 25 #[.pointer a] [.one .s] b c
def XE.c (a:Hp)(b:Option Addr->Hp->Prop):Prop:=R1 29 #[] [.one .p] a b
def X4.c (a b c d e f:Int)(g:Sl)(h:Int)(i:Hp)(j:Option Addr->Hp->Prop):Prop:=R1 30 #[.agg #[.I a,.I b,.I c,.I d,.I e,.I f],.slice g.a g.len g.cap,.I h] [.one .p] i j
def Zp.c (a:R2)(b:Hp)(c:Sl->Hp->Prop):Prop:=R1 31 #[.pointer a] [.one .s] b c
def WF.c (a:R2)(b:Hp)(c:aN):Prop:=R1 32 #[.pointer a] [.I] b c
def Yu.c (a:R2)(b:Hp)(c:Sl->Hp->Prop):Prop:=R1 33 #[.pointer a] [.one .s] b c
def Ya.c (a:Sl)(b:Int)(c:Hp)(d:aO):Prop:=R1 34 #[.slice a.a a.len a.cap,.I b] [.one .b] c d
def Xo.c (a:R2)(b c d e f g h:Int)(i:ByteArray)(j:Hp)(k:aN):Prop:=R1 35 #[.pointer a,.agg #[.I b,.I c,.I d,.I e,.I f,.I g,.I h,.string i]] [.I] j k
def YU.c (a:R2)(b:Hp)(c:Int->Int->Int->Int->Int->Int->Int->Int->Int->Int->Int->Hp->Prop):Prop:=R1 36 #[.pointer a] [.agg [bN,bN,bN,bN,bN,bN,bN,bN,bN,bN,bN]] b c
def X3.c (a b:Sl)(c:Hp)(d:aO):Prop:=R1 39 #[.slice a.a a.len a.cap,.slice b.a b.len b.cap] [.one .b] c d
def ZE.c (a:Sl)(b:Hp)(c:aO):Prop:=R1 40 #[.slice a.a a.len a.cap] [.one .b] b c
def Z2.c (a:Sl)(b c:Int)(d:Hp)(e:Int->Int->Hp->Prop):Prop:=R1 41 #[.slice a.a a.len a.cap,.I b,.I c] [.I,.I] d e
def Zd.c (a b c:Int)(d:Hp)(e:Int->Int->Hp->Prop):Prop:=R1 42 #[.agg #[.I a,.I b,.I c]] [.I,.I] d e
def Qo.c (a b c:Int)(d:Hp)(e:Int->Int->Hp->Prop):Prop:=R1 43 #[.agg #[.I a,.I b,.I c]] [.I,.I] d e
def Xi.c (a b:Int)(c:Hp)(d:Int->Int->Int->Hp->Prop):Prop:=R1 47 #[.I a,.I b] [.agg [bN,bN,bN]] c d
def X7.c (a b:Int)(c:Hp)(d:aN):Prop:=R1 48 #[.I a,.I b] [.I] c d
def QB.c (a:R2)(b:Hp)(c:aO):Prop:=R1 50 #[.pointer a] [.one .b] b c
def Xu.c (a:R2)(b:Hp)(c:aO):Prop:=R1 51 #[.pointer a] [.one .b] b c
def Yk.c (a:R2)(b c d:Int)(e:Hp)(f:Int->Int->Hp->Prop):Prop:=R1 52 #[.pointer a,.I b,.I c,.I d] [.I,.I] e f
def Xw.c (a:R2)(b:Int)(c:Hp)(d:aP):Prop:=R1 53 #[.pointer a,.I b] [] c d
def X0.c (a:R2)(b:Int)(c:R2)(d:Hp)(e:aP):Prop:=R1 54 #[.pointer a,.I b,.pointer c] [] d e
def Y6.c (a:R2)(b:Hp)(c:Int->Int->Int->Int->Int->Hp->Prop):Prop:=R1 55 #[.pointer a] [.agg [bN,bN,bN,bN,bN]] b c
def υ.c (a:R2)(b:Int)(c:Hp)(d:Int->Int->Hp->Prop):Prop:=R1 56 #[.pointer a,.I b] [.I,.I] c d
def Zi.c (a:R2)(b c:Int)(d:Hp)(e:aN):Prop:=R1 58 #[.pointer a,.I b,.I c] [.I] d e
def Xb.c (a:Sl)(b:Fv)(c:Hp)(d:aN):Prop:=R1 59 #[.slice a.a a.len a.cap,.func (.func b.f) b.first b.captured] [.I] c d
def XI.c (a b c d:Int)(e:Hp)(f:aN):Prop:=R1 60 #[.agg #[.I a,.I b,.I c,.I d]] [.I] e f
def Wu.c (a b c d e f:Int)(g:Hp)(h:Option Addr->Hp->Prop):Prop:=R1 63 #[.agg #[.I a,.I b,.I c,.I d,.I e,.I f]] [.one .p] g h
def WO.c (a b c d e f:Int)(g:Hp)(h:aO):Prop:=R1 64 #[.agg #[.I a,.I b,.I c,.I d,.I e,.I f]] [.one .b] g h
def WM.c (a:R2)(b:Hp)(c:aO):Prop:=R1 65 #[.pointer a] [.one .b] b c
def VK.c (a:Fv)(b:Hp)(c:Sl->Hp->Prop):Prop:=R1 66 #[.func (.func a.f) a.first a.captured] [.one .s] b c
def ZO.c (a:Option Nat)(b:Hp)(c:Fv->Hp->Prop):Prop:=R1 67 #[.map a] [.one .fn] b c
def Wc.c (a:Sl)(b:Hp)(c:Sl->Hp->Prop):Prop:=R1 68 #[.slice a.a a.len a.cap] [.one .s] b c
def Yh.c (a:Sl)(b c d e f g h:Int)(i:ByteArray)(j:Hp)(k:aN):Prop:=R1 69 #[.slice a.a a.len a.cap,.agg #[.I b,.I c,.I d,.I e,.I f,.I g,.I h,.string i]] [.I] j k
def Y5.c (a:R2)(b:Sl)(c d e f g h i:Int)(j:ByteArray)(k:Hp)(l:Int->Int->Int->Hp->Prop):Prop:=R1 70 #[.pointer a,.slice b.a b.len b.cap,.agg #[.I c,.I d,.I e,.I f,.I g,.I h,.I i,.string j]] [.I,.I,.I] k l
def Xz.c (a:R2)(b:Hp)(c:aN):Prop:=R1 71 #[.pointer a] [.I] b c
def Xr.c (a:R2)(b:Hp)(c:aN):Prop:=R1 72 #[.pointer a] [.I] b c
def Xs.c (a:R2)(b:Hp)(c:aN):Prop:=R1 73 #[.pointer a] [.I] b c
def X5.c (a:R2)(b:Hp)(c:Int->Int->Int->Int->Int->Int->Hp->Prop):Prop:=R1 74 #[.pointer a] [.I,.I,.I,.I,.I,.I] b c
def Yr.c (a:R2)(b:Int)(c:Hp)(d:aN):Prop:=R1 75 #[.pointer a,.I b] [.I] c d
def Y3.c (a:R2)(b:Int)(c:Hp)(d:Int->Int->Int->Hp->Prop):Prop:=R1 76 #[.pointer a,.I b] [.I,.I,.I] c d
def Qx.c (a b c:Int)(d:Hp)(e:aO):Prop:=R1 77 #[.agg #[.I a,.I b,.I c]] [.one .b] d e
def Qf.c (a:Int)(b:Hp)(c:aN):Prop:=R1 78 #[.I a] [.I] b c
def Wl.c (a:Sl)(b:Fv)(c:Hp)(d:aN):Prop:=R1 79 #[.slice a.a a.len a.cap,.func (.func b.f) b.first b.captured] [.I] c d
def ZY.c (a b c:Int)(d e:Addr)(f:Hp)(g:aO):Prop:=R1 80 #[.agg #[.I a,.I b,.I c],.pointer (some d),.pointer (some e)] [.one .b] f g
def ZJ.c (a b c:Int)(d:Hp)(e:aN):Prop:=R1 81 #[.agg #[.I a,.I b,.I c]] [.I] d e
def XQ.c (a:R2)(b c d e f:Int)(g:Hp)(h:Int->Int->Hp->Prop):Prop:=R1 83 #[.pointer a,.I b,.agg #[.I c,.I d,.I e,.I f]] [.I,.I] g h
def Zl.c (a:R2)(b:Hp)(c:Option Addr->Hp->Prop):Prop:=R1 84 #[.pointer a] [.one .p] b c
def WH.c (a:Sl)(b:Hp)(c:Sl->Hp->Prop):Prop:=R1 90 #[.slice a.a a.len a.cap] [.one .s] b c
def Kw.c (a:Sl)(b c d e f:Int)(g:Hp)(h:Option Addr->Int->Hp->Prop):Prop:=R1 92 #[.slice a.a a.len a.cap,.agg #[.I b,.I c,.I d,.I e,.I f]] [.one .p,.I] g h
def Vr.c (a:Fv)(b:Hp)(c:Sl->Hp->Prop):Prop:=R1 93 #[.func (.func a.f) a.first a.captured] [.one .s] b c
def Zj.c (a:R2)(b:Int)(c:Hp)(d:aN):Prop:=R1 96 #[.pointer a,.I b] [.I] c d
def Zq.c (a:R2)(b c:Int)(d:Hp)(e:aN):Prop:=R1 97 #[.pointer a,.I b,.I c] [.I] d e
def Yo.c (a:R2)(b c d e f:Int)(g:Hp)(h:aN):Prop:=R1 98 #[.pointer a,.I b,.agg #[.I c,.I d,.I e,.I f]] [.I] g h
def YZ.c (a:R2)(b:Int)(c:Hp)(d:Bool->Int->Int->Int->Hp->Prop):Prop:=R1 99 #[.pointer a,.I b] [.one .b,.agg [bN,bN],.I] c d
def YG.c (a:R2)(b:Int)(c:Hp)(d:Int->Int->Hp->Prop):Prop:=R1 100 #[.pointer a,.I b] [.I,.I] c d
def ZB.c (a:R2)(b:Hp)(c:aN):Prop:=R1 101 #[.pointer a] [.I] b c
def ZD.c (a:R2)(b:Hp)(c:aP):Prop:=R1 102 #[.pointer a] [] b c
def Xq.c (a:R2)(b:Hp)(c:aN):Prop:=R1 103 #[.pointer a] [.I] b c
def Xt.c (a:R2)(b:Hp)(c:aO):Prop:=R1 104 #[.pointer a] [.one .b] b c
def Xe.c (a:R2)(b:Hp)(c:aO):Prop:=R1 105 #[.pointer a] [.one .b] b c
def WD.c (a:R2)(b:Hp)(c:aO):Prop:=R1 106 #[.pointer a] [.one .b] b c
def X9.c (a:R2)(b:Hp)(c:Sl->Hp->Prop):Prop:=R1 107 #[.pointer a] [.one .s] b c
def W3.c (a:R2)(b:Hp)(c:Sl->Hp->Prop):Prop:=R1 108 #[.pointer a] [.one .s] b c
def YF.c (a:R2)(b:Hp)(c:aN):Prop:=R1 109 #[.pointer a] [.I] b c
def Zt.c (a:R2)(b:Hp)(c:aN):Prop:=R1 110 #[.pointer a] [.I] b c
def Wk.c (a:Sl)(b:Fv)(c:Hp)(d:aN):Prop:=R1 111 #[.slice a.a a.len a.cap,.func (.func b.f) b.first b.captured] [.I] c d
def Zg.c (a:R2)(b:Addr)(c:Hp)(d:aO):Prop:=R1 112 #[.pointer a,.pointer (some b)] [.one .b] c d
def Zb.c (a:R2)(b:Int)(c:Hp)(d:aO):Prop:=R1 113 #[.pointer a,.I b] [.one .b] c d
def Zr.c (a:R2)(b:Int)(c:Hp)(d:aN):Prop:=R1 114 #[.pointer a,.I b] [.I] c d
def YB.c (a:R2)(b:Int)(c:Hp)(d:Int->Int->Hp->Prop):Prop:=R1 115 #[.pointer a,.I b] [.I,.I] c d
def X1.c (a:R2)(b c:Int)(d:Hp)(e:aN):Prop:=R1 116 #[.pointer a,.I b,.I c] [.I] d e
def QA.c (a b c d e:Int)(f:Hp)(g:aO):Prop:=R1 123 #[.agg #[.I a,.I b,.I c,.I d,.I e]] [.one .b] f g
def Q2.c (a:Int)(b:Hp)(c:Option Addr->Int->Hp->Prop):Prop:=R1 124 #[.I a] [.one .p,.I] b c
def QZ.c (a:Sl)(b:R2)(c:Int)(d:Hp)(e:Option Addr->Int->Hp->Prop):Prop:=R1 125 #[.slice a.a a.len a.cap,.pointer b,.I c] [.one .p,.I] d e
def Q0.c (a:Sl)(b:Int)(c:Hp)(d:Option Addr->Int->Hp->Prop):Prop:=R1 126 #[.slice a.a a.len a.cap,.I b] [.one .p,.I] c d
def ZS.c (a:Int)(b:Hp)(c:aN):Prop:=R1 129 #[.int .u64 a] [.I] b c
def YC.c (a:R2)(b c:Int)(d:Hp)(e:aN):Prop:=R1 130 #[.pointer a,.I b,.I c] [.I] d e
def YW.c (a:R2)(b:Int)(c:Hp)(d:aO):Prop:=R1 131 #[.pointer a,.I b] [.one .b] c d
def Yx.c (a:R2)(b c d e:Int)(f:Hp)(g:Value->Hp->Prop):Prop:=R1 132 #[.pointer a,.agg #[.I b,.I c,.I d,.I e]] [.one .raw] f g
def ZA.c (a:R2)(b:Int)(c:Value)(d:Hp)(e:Value->Int->Int->Hp->Prop):Prop:=R1 133 #[.pointer a,.I b,c] [.one .raw,.agg [bN,bN]] d e
def Xk.c (a:R2)(b:Int)(c:Hp)(d:Int->Int->Hp->Prop):Prop:=R1 134 #[.pointer a,.I b] [.I,.I] c d
def Yl.c (a:R2)(b:Hp)(c:aN):Prop:=R1 135 #[.pointer a] [.I] b c
def Y1.c (a:R2)(b:Hp)(c:aP):Prop:=R1 136 #[.pointer a] [] b c
def WC.c (a:R2)(b:Hp)(c:aO):Prop:=R1 137 #[.pointer a] [.one .b] b c
def ZF.c (a:R2)(b:Hp)(c:Int->Int->Hp->Prop):Prop:=R1 138 #[.pointer a] [.agg [bN,bN]] b c
def WL.c (a:R2)(b:Hp)(c:aO):Prop:=R1 139 #[.pointer a] [.one .b] b c
def XA.c (a:Sl)(b:Hp)(c:Sl->Hp->Prop):Prop:=R1 140 #[.slice a.a a.len a.cap] [.one .s] b c
def XZ.c (a:R2)(b:Hp)(c:aN):Prop:=R1 141 #[.pointer a] [.I] b c
def XU.c (a:R2)(b:Hp)(c:aO):Prop:=R1 142 #[.pointer a] [.one .b] b c
def X2.c (a:R2)(b:Int)(c:Hp)(d:aN):Prop:=R1 143 #[.pointer a,.I b] [.I] c d
def XN.c (a:R2)(b:Hp)(c:aO):Prop:=R1 144 #[.pointer a] [.one .b] b c
def XR.c (a:R2)(b:Int)(c:Hp)(d:Option Addr->Hp->Prop):Prop:=R1 145 #[.pointer a,.I b] [.one .p] c d
def Yi.c (a:R2)(b:Int)(c:Hp)(d:Int->Int->Hp->Prop):Prop:=R1 146 #[.pointer a,.I b] [.I,.I] c d
def Wj.c (a:Sl)(b c:Bool)(d:Hp)(e:aO):Prop:=R1 147 #[.slice a.a a.len a.cap,.agg #[.bool b,.bool c]] [.one .b] d e
def WU.c (a:R2)(b:Hp)(c:aO):Prop:=R1 149 #[.pointer a] [.one .b] b c
def Qg.c (a:Hp)(b:Option Addr->Hp->Prop):Prop:=R1 150 #[] [.one .p] a b
def YT.c (a:R2)(b c d:Int)(e:Hp)(f:aN):Prop:=R1 152 #[.pointer a,.I b,.I c,.I d] [.I] e f
def QY.c (a:Int)(b:Hp)(c:Option Addr->Int->Hp->Prop):Prop:=R1 154 #[.I a] [.one .p,.I] b c
def Kx.c (a:Int)(b:Hp)(c:Option Addr->Int->Hp->Prop):Prop:=R1 155 #[.I a] [.one .p,.I] b c
def Qh.c (a b c:Int)(d:Hp)(e:Option Addr->Int->Hp->Prop):Prop:=R1 156 #[.agg #[.I a,.I b,.I c]] [.one .p,.I] d e
def ZZ.c (a b:Int)(c:Hp)(d:Option Addr->Int->Hp->Prop):Prop:=R1 157 #[.I a,.I b] [.one .p,.I] c d
def ZG.c (a:Int)(b:Hp)(c:aN):Prop:=R1 168 #[.int .u64 a] [.I] b c
def Zn.c (a:R2)(b c:Int)(d:Hp)(e:aP):Prop:=R1 169 #[.pointer a,.I b,.I c] [] d e
def ZI.c (a:R2)(b:Int)(c:Hp)(d:aN):Prop:=R1 170 #[.pointer a,.I b] [.I] c d
def Yd.c (a:R2)(b:Int)(c:Hp)(d:Int->Int->Hp->Prop):Prop:=R1 171 #[.pointer a,.I b] [.I,.I] c d
def Za.c (a:R2)(b c d:Int)(e:Hp)(f:Value->Int->Int->Hp->Prop):Prop:=R1 172 #[.pointer a,.I b,.I c,.I d] [.one .raw,.agg [bN,bN]] e f
def Yn.c (a:R2)(b:Int)(c:Hp)(d:Int->Int->Hp->Prop):Prop:=R1 173 #[.pointer a,.I b] [.I,.I] c d
def WB.c (a:R2)(b:Int)(c:Hp)(d:Sl->Int->Hp->Prop):Prop:=R1 174 #[.pointer a,.I b] [.one .s,.I] c d
def YD.c (a:R2)(b c:Int)(d:Sl)(e:Hp)(f:aP):Prop:=R1 175 #[.pointer a,.I b,.I c,.slice d.a d.len d.cap] [] e f
def WE.c (a:R2)(b c:Int)(d:Hp)(e:Sl->Int->Hp->Prop):Prop:=R1 176 #[.pointer a,.I b,.I c] [.one .s,.I] d e
def Yf.c (a:R2)(b:Int)(c:Hp)(d:aN):Prop:=R1 177 #[.pointer a,.I b] [.I] c d
def Ym.c (a:R2)(b:Int)(c:Sl)(d:Hp)(e:aN):Prop:=R1 178 #[.pointer a,.I b,.slice c.a c.len c.cap] [.I] d e
def WS.c (a:R2)(b c:Int)(d:Hp)(e:Int->Int->Hp->Prop):Prop:=R1 179 #[.pointer a,.I b,.I c] [.I,.I] d e
def Zy.c (a:R2)(b c:Int)(d:Hp)(e:Value->Int->Int->Hp->Prop):Prop:=R1 180 #[.pointer a,.I b,.I c] [.one .raw,.agg [bN,bN]] d e
def YR.c (a:R2)(b c:Int)(d:Hp)(e:Sl->Int->Hp->Prop):Prop:=R1 181 #[.pointer a,.I b,.I c] [.one .s,.I] d e
def Yj.c (a:R2)(b:Hp)(c:aO):Prop:=R1 182 #[.pointer a] [.one .b] b c
def W8.c (a:R2)(b:Hp)(c:Sl->Hp->Prop):Prop:=R1 183 #[.pointer a] [.one .s] b c
def W4.c (a:R2)(b:Int)(c:Hp)(d:Value->Hp->Prop):Prop:=R1 184 #[.pointer a,.I b] [.one .raw] c d
def Wp.c (a:Sl)(b:Hp)(c:Sl->Hp->Prop):Prop:=R1 185 #[.slice a.a a.len a.cap] [.one .s] b c
def ZC.c (a:R2)(b c:Int)(d:Sl)(e:Hp)(f:aP):Prop:=R1 186 #[.pointer a,.I b,.agg #[.I c,.slice d.a d.len d.cap]] [] e f
def WR.c (a:R2)(b:Int)(c:Hp)(d:aN):Prop:=R1 187 #[.pointer a,.I b] [.I] c d
def XP.c (a:R2)(b:Hp)(c:Sl->Hp->Prop):Prop:=R1 188 #[.pointer a] [.one .s] b c
def Xf.c (a:R2)(b:Sl)(c:Hp)(d:aP):Prop:=R1 189 #[.pointer a,.slice b.a b.len b.cap] [] c d
def WZ.c (a:R2)(b:Hp)(c:Sl->Hp->Prop):Prop:=R1 190 #[.pointer a] [.one .s] b c
def YH.c (a:R2)(b:Int)(c:Hp)(d:Sl->Int->Hp->Prop):Prop:=R1 191 #[.pointer a,.I b] [.one .s,.I] c d
def W9.c (a:R2)(b c:Int)(d:Hp)(e:aN):Prop:=R1 192 #[.pointer a,.I b,.I c] [.I] d e
def XF.c (a:R2)(b c:Int)(d:Hp)(e:aN):Prop:=R1 193 #[.pointer a,.I b,.I c] [.I] d e
def Yw.c (a:R2)(b:Hp)(c:Sl->Hp->Prop):Prop:=R1 194 #[.pointer a] [.one .s] b c
def Xj.c (a:R2)(b:Int)(c:Hp)(d:aN):Prop:=R1 195 #[.pointer a,.I b] [.I] c d
def Xy.c (a:R2)(b c:Int)(d:Hp)(e:aN):Prop:=R1 196 #[.pointer a,.I b,.I c] [.I] d e
def YE.c (a:R2)(b c:Int)(d:Hp)(e:aN):Prop:=R1 197 #[.pointer a,.I b,.I c] [.I] d e
def Xm.c (a:R2)(b:Hp)(c:Sl->Hp->Prop):Prop:=R1 198 #[.pointer a] [.one .s] b c
def WA.c (a:R2)(b:Int)(c:Sl)(d:Hp)(e:aN):Prop:=R1 199 #[.pointer a,.I b,.slice c.a c.len c.cap] [.I] d e
def YA.c (a:R2)(b:Hp)(c:aO):Prop:=R1 200 #[.pointer a] [.one .b] b c
def XH.c (a:Sl)(b:Int)(c:Hp)(d:Sl->Hp->Prop):Prop:=R1 201 #[.slice a.a a.len a.cap,.I b] [.one .s] c d
def Yz.c (a:R2)(b:Int)(c:Hp)(d:aN):Prop:=R1 202 #[.pointer a,.I b] [.I] c d
def Wn.c (a:Sl)(b c:Bool)(d:Hp)(e:aN):Prop:=R1 203 #[.slice a.a a.len a.cap,.agg #[.bool b,.bool c]] [.I] d e
def Zk.c (a:R2)(b c:Int)(d:Hp)(e:aP):Prop:=R1 204 #[.pointer a,.I b,.I c] [] d e
def Xp.c (a:R2)(b:Int)(c:Hp)(d:Option Addr->Int->Hp->Prop):Prop:=R1 211 #[.pointer a,.I b] [.one .p,.I] c d
def WY.c (a:R2)(b:Int)(c:Hp)(d:aN):Prop:=R1 212 #[.pointer a,.I b] [.I] c d
def Wz.c (a:R2)(b:Hp)(c:Sl->Int->Hp->Prop):Prop:=R1 213 #[.pointer a] [.one .s,.I] b c
def Xd.c (a:R2)(b:Int)(c:Hp)(d:Sl->Int->Hp->Prop):Prop:=R1 214 #[.pointer a,.I b] [.one .s,.I] c d
def YS.c (a:R2)(b c d:Int)(e:Hp)(f:Int->Int->Hp->Prop):Prop:=R1 215 #[.pointer a,.I b,.I c,.I d] [.I,.I] e f
def Y9.c (a:R2)(b:Int)(c:Hp)(d:aN):Prop:=R1 216 #[.pointer a,.I b] [.I] c d
def W0.c (a:Sl)(b:Hp)(c:aP):Prop:=R1 217 #[.slice a.a a.len a.cap] [] b c
def W1.c (a:R2)(b:Sl)(c:Hp)(d:aN):Prop:=R1 218 #[.pointer a,.slice b.a b.len b.cap] [.I] c d
def Xc.c (a:R2)(b:Int)(c:Hp)(d:Sl->Hp->Prop):Prop:=R1 219 #[.pointer a,.I b] [.one .s] c d
def Xl.c (a:R2)(b:Fv)(c:Hp)(d:Sl->Hp->Prop):Prop:=R1 220 #[.pointer a,.func (.func b.f) b.first b.captured] [.one .s] c d
def Xx.c (a:R2)(b:Int)(c:Hp)(d:Sl->Hp->Prop):Prop:=R1 221 #[.pointer a,.I b] [.one .s] c d
def WK.c (a:R2)(b:Int)(c:Sl)(d:Hp)(e:Bool->Int->Hp->Prop):Prop:=R1 222 #[.pointer a,.I b,.slice c.a c.len c.cap] [.one .b,.I] d e
def YJ.c (a:R2)(b:Int)(c:Hp)(d:Sl->Hp->Prop):Prop:=R1 223 #[.pointer a,.I b] [.one .s] c d
def XY.c (a:R2)(b c:Int)(d:Hp)(e:aN):Prop:=R1 224 #[.pointer a,.I b,.I c] [.I] d e
def XB.c (a:R2)(b c:Int)(d:Hp)(e:aN):Prop:=R1 225 #[.pointer a,.I b,.I c] [.I] d e
def Yp.c (a:R2)(b c:Int)(d:Hp)(e:aN):Prop:=R1 226 #[.pointer a,.I b,.I c] [.I] d e
def Wf.c (a:Sl)(b:Fv)(c:Hp)(d:Sl->Hp->Prop):Prop:=R1 227 #[.slice a.a a.len a.cap,.func (.func b.f) b.first b.captured] [.one .s] c d
def Yb.c (a b:Int)(c:R2)(d:Addr)(e:Hp)(f:aO):Prop:=R1 228 #[.agg #[.I a,.I b,.pointer c],.pointer (some d)] [.one .b] e f
def XO.c (a:R2)(b:Hp)(c:aN):Prop:=R1 229 #[.pointer a] [.I] b c
def ZK.c (a:Sl)(b:Int)(c:Hp)(d:aN):Prop:=R1 230 #[.slice a.a a.len a.cap,.I b] [.I] c d
def Xn.c (a:R2)(b:Int)(c:Hp)(d:Sl->Hp->Prop):Prop:=R1 231 #[.pointer a,.I b] [.one .s] c d
def WP.c (a:Sl)(b:Fv)(c:Hp)(d:aP):Prop:=R1 232 #[.slice a.a a.len a.cap,.func (.func b.f) b.first b.captured] [] c d
def XL.c (a b:Int)(c:Addr)(d:Hp)(e:aN):Prop:=R1 233 #[.I a,.I b,.pointer (some c)] [.I] d e
def Qy.c (a:Sl)(b:Hp)(c:aN):Prop:=R1 234 #[.slice a.a a.len a.cap] [.I] b c
def Xv.c (a:R2)(b c d:Int)(e:Sl)(f:Hp)(g:aN):Prop:=R1 235 #[.pointer a,.I b,.I c,.I d,.slice e.a e.len e.cap] [.I] f g
def XV.c (a:R2)(b c:Int)(d e:Bool)(f:Hp)(g:aN):Prop:=R1 236 #[.pointer a,.I b,.I c,.agg #[.bool d,.bool e]] [.I] f g
def X8.c (a:R2)(b:Int)(c:Hp)(d:Sl->Hp->Prop):Prop:=R1 237 #[.pointer a,.I b] [.one .s] c d
def XX.c (a:R2)(b:Int)(c:Hp)(d:Sl->Int->Hp->Prop):Prop:=R1 238 #[.pointer a,.I b] [.one .s,.I] c d
def Q1.c (a:Sl)(b:Hp)(c:aO):Prop:=R1 239 #[.slice a.a a.len a.cap] [.one .b] b c
def Qm.c (a:Sl)(b:Int)(c:Hp)(d:aP):Prop:=R1 240 #[.slice a.a a.len a.cap,.I b] [] c d
def Ys.c (a:R2)(b c:Int)(d:Hp)(e:aN):Prop:=R1 241 #[.pointer a,.I b,.I c] [.I] d e
def XW.c (a:R2)(b:Int)(c:Hp)(d:aO):Prop:=R1 242 #[.pointer a,.I b] [.one .b] c d
def Zs.c (a:R2)(b c:Int)(d:Hp)(e:aP):Prop:=R1 243 #[.pointer a,.I b,.I c] [] d e
def XK.c (a:R2)(b:Fv)(c:Hp)(d:Sl->Hp->Prop):Prop:=R1 244 #[.pointer a,.agg #[.func (.func b.f) b.first b.captured]] [.one .s] c d
def XJ.c (a:R2)(b:Hp)(c:aN):Prop:=R1 245 #[.pointer a] [.I] b c
def Y4.c (a:R2)(b:Sl)(c:Hp)(d:Sl->Int->Hp->Prop):Prop:=R1 246 #[.pointer a,.slice b.a b.len b.cap] [.one .s,.I] c d
def Ww.c (a:R2)(b:Hp)(c:Option Addr->Hp->Prop):Prop:=R1 247 #[.pointer a] [.one .p] b c
def Wy.c (a:R2)(b:Hp)(c:Option Addr->Hp->Prop):Prop:=R1 248 #[.pointer a] [.one .p] b c
def Zz.c (a:R2)(b:Int)(c:Hp)(d:Option Addr->Hp->Prop):Prop:=R1 250 #[.pointer a,.I b] [.one .p] c d
def Y8.c (a:R2)(b:Hp)(c:Int->Bool->Hp->Prop):Prop:=R1 251 #[.pointer a] [.I,.one .b] b c
def XT.c (a:R2)(b c:Int)(d:Hp)(e:Int->Int->Hp->Prop):Prop:=R1 252 #[.pointer a,.I b,.I c] [.I,.I] d e
def Y7.c (a:R2)(b:Int)(c:Hp)(d:aO):Prop:=R1 253 #[.pointer a,.I b] [.one .b] c d
def XM.c (a:R2)(b c:Int)(d:Hp)(e:aN):Prop:=R1 254 #[.pointer a,.I b,.I c] [.I] d e
def Yq.c (a:R2)(b c d:Int)(e:Hp)(f:aN):Prop:=R1 255 #[.pointer a,.I b,.I c,.I d] [.I] e f
def Ky.c (a b c d:Int)(e:Hp)(f:Option Addr->Int->Hp->Prop):Prop:=R1 256 #[.I a,.agg #[.I b,.I c,.I d]] [.one .p,.I] e f
def Wb.c (a:Sl)(b:Int)(c:Fv)(d:Hp)(e:Int->Bool->Hp->Prop):Prop:=R1 257 #[.slice a.a a.len a.cap,.I b,.func (.func c.f) c.first c.captured] [.I,.one .b] d e
def YY.c (a b:Int)(c:R2)(d:Int)(e:Hp)(f:aN):Prop:=R1 258 #[.agg #[.I a,.I b,.pointer c],.I d] [.I] e f
def Wg.c (a:Sl)(b:Int)(c:Sl)(d:Hp)(e:Sl->Hp->Prop):Prop:=R1 259 #[.slice a.a a.len a.cap,.I b,.slice c.a c.len c.cap] [.one .s] d e
def Xh.c (a:Sl)(b:Hp)(c:Sl->Hp->Prop):Prop:=R1 260 #[.slice a.a a.len a.cap] [.one .s] b c
def Z0.c (a:Sl)(b:Fv)(c:Hp)(d:aP):Prop:=R1 261 #[.slice a.a a.len a.cap,.func (.func b.f) b.first b.captured] [] c d
def W7.c (a:R2)(b:Int)(c:Hp)(d:Bool->Int->Hp->Prop):Prop:=R1 263 #[.pointer a,.I b] [.one .b,.I] c d
def Xa.c (a:R2)(b:Sl)(c:Hp)(d:Bool->Int->Hp->Prop):Prop:=R1 264 #[.pointer a,.slice b.a b.len b.cap] [.one .b,.I] c d
def Ye.c (a:R2)(b c:Int)(d:Hp)(e:aP):Prop:=R1 265 #[.pointer a,.I b,.I c] [] d e
def Wi.c (a:Sl)(b:Fv)(c:Hp)(d:aN):Prop:=R1 266 #[.slice a.a a.len a.cap,.func (.func b.f) b.first b.captured] [.I] c d
def WN.c (a:Sl)(b c d:Int)(e:Fv)(f:Hp)(g:aP):Prop:=R1 267 #[.slice a.a a.len a.cap,.I b,.I c,.I d,.func (.func e.f) e.first e.captured] [] f g
def Wx.c (a:Sl)(b:Fv)(c:Hp)(d:aO):Prop:=R1 268 #[.slice a.a a.len a.cap,.func (.func b.f) b.first b.captured] [.one .b] c d
def YI.c (a:Int)(b:Addr)(c:Hp)(d:aO):Prop:=R1 269 #[.I a,.pointer (some b)] [.one .b] c d
def Wo.c (a:Sl)(b:Int)(c:Hp)(d:aO):Prop:=R1 270 #[.slice a.a a.len a.cap,.I b] [.one .b] c d
def YX.c (a:R2)(b c:Int)(d:Hp)(e:Sl->Int->Hp->Prop):Prop:=R1 271 #[.pointer a,.I b,.I c] [.one .s,.I] d e
def YV.c (a:R2)(b c:Int)(d e:Bool)(f:Hp)(g:aP):Prop:=R1 272 #[.pointer a,.I b,.I c,.agg #[.bool d,.bool e]] [] f g
def XC.c (a:R2)(b:Int)(c:Hp)(d:Int->Int->Bool->Hp->Prop):Prop:=R1 273 #[.pointer a,.I b] [.I,.I,.one .b] c d
def WQ.c (a:Sl)(b:Hp)(c:Sl->Hp->Prop):Prop:=R1 274 #[.slice a.a a.len a.cap] [.one .s] b c
def ZH.c (a:R2)(b:Int)(c:Hp)(d:aN):Prop:=R1 275 #[.pointer a,.I b] [.I] c d
def W5.c (a b c d:Int)(e:Hp)(f:aO):Prop:=R1 276 #[.agg #[.I a,.I b],.agg #[.I c,.I d]] [.one .b] e f
def Zx.c (a:R2)(b:Hp)(c:Int->Int->Hp->Prop):Prop:=R1 277 #[.pointer a] [.I,.I] b c
def X6.c (a:Sl)(b:Hp)(c:aN):Prop:=R1 278 #[.slice a.a a.len a.cap] [.I] b c
def Qp.c (a:Option Nat)(b:Hp)(c:Fv->Hp->Prop):Prop:=R1 279 #[.map a] [.one .fn] b c
def Zo.c (a:R2)(b c:Int)(d:Hp)(e:aN):Prop:=R1 280 #[.pointer a,.I b,.I c] [.I] d e
def Yg.c (a:R2)(b:Int)(c:Hp)(d:aN):Prop:=R1 281 #[.pointer a,.I b] [.I] c d
def Kq.c (a:Sl)(b:Int)(c:Hp)(d:aP):Prop:=R1 283 #[.slice a.a a.len a.cap,.I b] [] c d
def Yy.c (a:R2)(b:Int)(c:Hp)(d:Bool->Int->Hp->Prop):Prop:=R1 285 #[.pointer a,.I b] [.one .b,.I] c d
def Zm.c (a:R2)(b c:Int)(d:Hp)(e:aP):Prop:=R1 286 #[.pointer a,.I b,.I c] [] d e
def Wr.c (a:Sl)(b c:Int)(d:Fv)(e:Hp)(f:aP):Prop:=R1 287 #[.slice a.a a.len a.cap,.I b,.I c,.func (.func d.f) d.first d.captured] [] e f
def WW.c (a:Sl)(b:Fv)(c:Hp)(d:aN):Prop:=R1 295 #[.slice a.a a.len a.cap,.func (.func b.f) b.first b.captured] [.I] c d
def WG.c (a:Sl)(b:Int)(c:Hp)(d:aN):Prop:=R1 296 #[.slice a.a a.len a.cap,.I b] [.I] c d
def Yt.c (a:R2)(b:Int)(c:Hp)(d:Int->Int->Hp->Prop):Prop:=R1 297 #[.pointer a,.I b] [.I,.I] c d
def Zh.c (a:R2)(b:Int)(c:Sl)(d:Hp)(e:aP):Prop:=R1 298 #[.pointer a,.I b,.slice c.a c.len c.cap] [] d e
def Wh.c (a:Sl)(b:Fv)(c:Hp)(d:aO):Prop:=R1 300 #[.slice a.a a.len a.cap,.func (.func b.f) b.first b.captured] [.one .b] c d
def YO.c (a b:Bool)(c:Hp)(d:aO):Prop:=R1 301 #[.agg #[.bool a,.bool b]] [.one .b] c d
def Wm.c (a:Sl)(b:Fv)(c:Hp)(d:aN):Prop:=R1 314 #[.slice a.a a.len a.cap,.func (.func b.f) b.first b.captured] [.I] c d
set_option maxRecDepth 100000
def Zt.h:Hn:=.q .o1 (.q (.q .o3 .aK) (.q .o1 (.q (.q .o6 (.k (.loop [(3,.I),(14,.I)] (.q .o1 (.q (.c .l .l) (.q (.k (.q .o5 .o7)) .o2)))))) .aL)))
abbrev _root_.aQ(a:Addr)(n:Nat)(h:Hp)(K:Int->Prop):Prop:=fF .i64 (a.add n) h K
abbrev _root_.aR(a:Addr)(n:Nat)(v:Value)(h:Hp)(K:Hp->Prop):Prop:=dL (a.add n) v h K
abbrev _root_.aX(a:Addr)(n:Nat)(h:Hp)(K:Sl->Prop):Prop:=jk (a.add n) h K
abbrev _root_.aY(a:Addr)(n:Nat)(h:Hp)(K:Option Addr->Prop):Prop:=fZ (a.add n) h K
abbrev _root_.aZ(a:Addr)(n:Nat)(h:Hp)(K:Bool->Prop):Prop:=kF (a.add n) h K
abbrev _root_.bA(a:Addr)(n:Nat)(h:Hp)(K:Value->Prop):Prop:=wo (a.add n) h K
abbrev _root_.bB(a:Addr)(n:Nat)(h:Hp)(K:Option Nat->Prop):Prop:=mQ (a.add n) h K
abbrev _root_.bC(a:Addr)(n:Nat)(h:Hp)(K:ByteArray->Prop):Prop:=wN (a.add n) h K
abbrev _root_.bD(p:Option Addr)(n:Nat)(h:Hp)(K:Int->Prop):Prop:=bS p λa=>fF .i64 (a.add n) h K
abbrev _root_.bE(p:Option Addr)(n:Nat)(h:Hp)(K:Sl->Prop):Prop:=bS p λa=>jk (a.add n) h K
abbrev _root_.bF(p:Option Addr)(n:Nat)(h:Hp)(K:Option Addr->Prop):Prop:=bS p λa=>fZ (a.add n) h K
abbrev _root_.bG(p:Option Addr)(n:Nat)(h:Hp)(K:Bool->Prop):Prop:=bS p λa=>kF (a.add n) h K
abbrev _root_.bH(p:Option Addr)(n:Nat)(h:Hp)(K:Value->Prop):Prop:=bS p λa=>wo (a.add n) h K
abbrev _root_.bI(p:Option Addr)(n:Nat)(h:Hp)(K:Option Nat->Prop):Prop:=bS p λa=>mQ (a.add n) h K
abbrev _root_.bJ(p:Option Addr)(n:Nat)(h:Hp)(K:ByteArray->Prop):Prop:=bS p λa=>wN (a.add n) h K
abbrev _root_.aS(S:Hp->Prop)(a:Addr)(n:Nat)(K:Int->Prop):Prop:=gQ S bN (a.add n) K
abbrev _root_.aT(S:Hp->Prop)(a:Addr)(n:Nat)(K:Sl->Prop):Prop:=gQ S .s (a.add n) K
abbrev _root_.aU(S:Hp->Prop)(a:Addr)(n:Nat)(K:Option Addr->Prop):Prop:=gQ S .p (a.add n) K
abbrev _root_.bL(e:Int)(K:Int->Prop):Prop:=Ar .i64 e K
abbrev _root_.bM(a:Addr)(h:Hp)(K:Int->Prop):Prop:=fF .i64 a h K
abbrev _root_.aV(c:Array Value)(t:Nat)(h:Hp)(K:Addr->Hp->Prop):Prop:=Nw (.cells c t (0,0)) h K
def Zt.v (a:R2)(b:Hp)(c:aN):Prop:=XU.c a b λd e=>If (!d) (c 0 e) (bE a 1 e λg=>W6 [bN,bN] (λh=>h 0 0 e) λi (j:Int) (k:Int) l=>If (k<((g.len:Nat):Int)) (Ix g.a g.len k 1 λm=>mQ m l λn=>nZ .i64 .b n l λo=>Nn k<|bL (o*2^(min k.toNat IntKind.i64.bits)) λp=>bL (j+p) λq=>bL (k+1) λr=>i q r l) (c j l))
theorem Zt.o {a b c}(d:Zt.v a b c):Zt.c a b c:=Wa Tryz.func110 (x:=Zt.h) (R0 d)
def XU.h:Hn:=.q .o1 (.q (.cV (.seq [.op,.op,.op,.dD true 5 (RI.ops 5),.op])) .l)
def XU.v (a:R2)(b:Hp)(c:aO):Prop:=bY (λd e=>c d e) λf=>If (!a.isNone) (bD a 0 b λh=>f (decide (h>0)) b) (f false b)
theorem XU.o {a b c}(d:XU.v a b c):XU.c a b c:=Wa Tryz.func142 (x:=XU.h) (R0 d)
def QY.h:Hn:=.q .o2 (.q (.q (.cV (.seq [.op,.op,.op,.dD false 2 [.op,.op]])) .aJ) (.q .o4 (.q (.q .o1 (.k (.loop [(5,.I)] (.q (.q .o3 (.c .l .l)) (.q (.k (.o 11)) .o3))))) (.q .o3 .l))))
def QY.v (a:Int)(b:Hp)(c:Option Addr->Int->Hp->Prop):Prop:=bY (λd e=>If d (c none 1 e) (Nw (.cells #[.I a,.slice none 0 0] 218 (0,0)) e λf g=>W6 [bN] (λh=>h 1 g) λi (j:Int) k=>If (j<=a) (bS (some f) λl=>jk (l.add 1) k λm=>Nw (.map #[] 0) k λn o=>Nw (.cells #[.map (some n.block)] 219 (0,0)) o λp q=>App m 1 8 219 [.map none] ⟨some p,1,1⟩ q λr s=>bS (some f) λt=>dL (t.add 1) (.slice r.a r.len r.cap) s λu=>Ar .i64 (j*2) λv=>i v u) (c (some f) 0 k))) λw=>If (a<1) (w true b) (w (decide (a>1024)) b)
theorem QY.o {a b c}(d:QY.v a b c):QY.c a b c:=Wa Tryz.func154 (x:=QY.h) (R0 d)
def Xy.h:Hn:=.q .o1 (.q (.q .o5 (.q .o2 .aJ)) (.q (.q .o2 (.k (.loop [(8,.I)] (.q (.q .o5 (.c .l .l)) (.q (.k (.q .o4 .aK)) .o3))))) (.q .o4 .aM)))
def Xy.v (a:R2)(b c:Int)(d:Hp)(e:aN):Prop:=Ys.c a b c d λf g=>If (f != 0) (e f g) (W6 [bN] (λh=>h b g) λi (j:Int) k=>bL (b+c) λl=>If (j<l) (XW.c a j k λm n=>If (!m) (e 4 n) (bL (j+1) λo=>i o n)) (Zs.c a b c k λp=>e 0 p))
theorem Xy.o {a b c d e}(f:Xy.v a b c d e):Xy.c a b c d e:=Wa Tryz.func196 (x:=Xy.h) (R0 f)
def Yp.h:Hn:=.q .o1 (.q (.q .o5 (.q .o2 .aJ)) (.q (.q .o2 (.k (.loop [(8,.I)] (.q (.q .o5 (.c .l .l)) (.q (.k (.q .o3 .aK)) .o3))))) (.q .o4 .aM)))
def Yp.v (a:R2)(b c:Int)(d:Hp)(e:aN):Prop:=Ys.c a b c d λf g=>If (f != 0) (e f g) (W6 [bN] (λh=>h b g) λi (j:Int) k=>bL (b+c) λl=>If (j<l) (XW.c a j k λm n=>If m (e 9 n) (bL (j+1) λo=>i o n)) (Ye.c a b c k λp=>e 0 p))
theorem Yp.o {a b c d e}(f:Yp.v a b c d e):Yp.c a b c d e:=Wa Tryz.func226 (x:=Yp.h) (R0 f)
def Ys.h:Hn:=.q .o1 (.q (.k (.q .o4 (.c .aM (.q (.cV (.seq [.op,.op,.op,.dD false 2 [.op,.op],.op,.dD false 6 (RI.ops 6),.op,.dD false 8 (RI.ops 8),.op])) .aK)))) .aM)
def Ys.v (a:R2)(b c:Int)(d:Hp)(e:aN):Prop:=XU.c a d λf g=>If (!f) (e 5 g) (bY (λh i=>bY (λj k=>bY (λl m=>If l (e 1 m) (e 0 m)) λn=>If j (n true k) (bD a 0 k λp=>bL (p-b) λq=>n (decide (c>q)) k)) λr=>If h (r true i) (bD a 0 i λt=>r (decide (b>t)) i)) λu=>If (b<0) (u true g) (u (decide (c<1)) g))
theorem Ys.o {a b c d e}(f:Ys.v a b c d e):Ys.c a b c d e:=Wa Tryz.func241 (x:=Ys.h) (R0 f)
def XW.h:Hn:=.q .o1 (.q (.q (.cV (.seq [.op,.op,.op,.op,.dD false 2 [.op,.op],.op,.dD false 6 (RI.ops 6)])) .aK) (.q .fV .aL))
def XW.v (a:R2)(b:Int)(c:Hp)(d:aO):Prop:=XU.c a c λe f=>bY (λg h=>bY (λi j=>If i (d false j) (XC.c a b j λk l m n=>d m n)) λo=>If g (o true h) (bD a 0 h λq=>o (decide (b≥q)) h)) λr=>If (!e) (r true f) (r (decide (b<0)) f)
theorem XW.o {a b c d}(e:XW.v a b c d):XW.c a b c d:=Wa Tryz.func242 (x:=XW.h) (R0 e)
def Zs.h:Hn:=.q .o2 (.k (.loop [(6,.I)] (.q (.q .o5 (.c .l .l)) (.k (.q .fV (.q .o9 (.q .o5 (.q .o6 (.q (.q .o4 (.q .o3 (.c .o6 .l))) .o2)))))))))
def Zs.v (a:R2)(b c:Int)(d:Hp)(e:aP):Prop:=W6 [bN] (λf=>f b d) λg (h:Int) i=>bL (b+c) λj=>If (h<j) (XC.c a h i λk l m n=>bE a 1 n λp=>Ix p.a p.len k 1 λq=>mQ q n λr=>mK .i64 .b r l n λs=>Nn k<|bL ((1:Int)*2^(min k.toNat IntKind.i64.bits)) λt=>bL (l+t) λu=>bL (h-l) λv=>Ye.c a l v s λw=>bL (b+c) λx=>If (u>x) (bL (u-x) λy=>Ye.c a x y w λz=>g u z) (g u w)) (e i)
theorem Zs.o {a b c d e}(f:Zs.v a b c d e):Zs.c a b c d e:=Wa Tryz.func243 (x:=Zs.h) (R0 f)
def XT.h:Hn:=.q .o2 (.q (.k (.q .o4 (.c .aL (.q (.cV (.seq [.op,.op,.op,.dD false 2 [.op,.op],.op,.dD false 2 [.op,.op],.op,.dD false 2 [.op,.op],.op,.dD false 5 (RI.ops 5),.op])) .aJ)))) (.q (.q .o6 (.k (.loop [(42,.I)] (.q .o1 (.q (.c .l .l) (.q (.k (.q .o5 (.q (.cV (.seq [.op,.op,.op,.op,.op,.op,.op,.dD true 3 (RI.ops 3)])) (.c (.q .o5 (.q .o4 (.q .o3 .l))) .l)))) .o2)))))) .aL))
def XT.v (a:R2)(b c:Int)(d:Hp)(e:Int->Int->Hp->Prop):Prop:=XU.c a d λf g=>If (!f) (e 0 5 g) (bY (λh i=>bY (λj k=>bY (λl m=>bY (λn o=>If n (e 0 1 o) (bE a 1 o λq=>W6 [bN] (λr=>r 0 o) λs (t:Int) u=>If (t<((q.len:Nat):Int)) (Ix q.a q.len t 1 λv=>mQ v u λw=>Nn t<|bL ((1:Int)*2^(min t.toNat IntKind.i64.bits)) λx=>bY (λy z=>If y (Qp.c w z λaa ab=>Vr.c aa ab λac ad=>X6.c ac ad λae af=>Zs.c a ae b af λag=>e ae 0 ag) (bL (t+1) λah=>s ah z)) λai=>If (x≥(if c>b then c else b)) (nZ .i64 .b w u λaj=>ai (decide (aj>0)) u) (ai false u)) (e 0 6 u))) λak=>If l (ak true m) (bL (c-1) λal=>ak ((bits .and .i64 c al) != 0) m)) λam=>If j (am true k) (am (decide (c>1024)) k)) λan=>If h (an true i) (an (decide (c<1)) i)) λao=>If (b<1) (ao true g) (ao (decide (b>1024)) g))
theorem XT.o {a b c d e}(f:XT.v a b c d e):XT.c a b c d e:=Wa Tryz.func252 (x:=XT.h) (R0 f)
def Ye.h:Hn:=.k (.loop [(1,.I),(2,.I)] (.q (.q .o2 (.c .l .l)) (.k (.q .o1 (.q (.k (.loop [(6,.I)] (.q (.q (.cV (.seq [.op,.op,.op,.op,.op,.op,.op,.op,.op,.op,.dD true 5 (RI.ops 5)])) (.c .l .l)) (.k .o3)))) (.q .o4 (.oq 10)))))))
def Ye.v (a:R2)(b c:Int)(d:Hp)(e:aP):Prop:=W6 [bN,bN] (λf=>f b c d) λg (h:Int) (i:Int) j=>If (i>0) (W6 [bN] (λk=>k 0 j) λl (m:Int) n=>bL (m+1) λo=>Nn o <| bL (m+1) λp=>Nn p<|bL ((h.fdiv (2^(min o.toNat IntKind.i64.bits)))*2^(min p.toNat IntKind.i64.bits)) λq=>bY (λr s=>If r (bL (m+1) λt=>l t s) (Zm.c a m h s λu=>Nn m<|bL ((1:Int)*2^(min m.toNat IntKind.i64.bits)) λv=>bL (h+v) λw=>Nn m<|bL ((1:Int)*2^(min m.toNat IntKind.i64.bits)) λx=>bL (i-x) λy=>g w y u)) λz=>If (q==h) (bL (m+1) λaa=>Nn aa<|bL ((1:Int)*2^(min aa.toNat IntKind.i64.bits)) λab=>z (decide (ab<=i)) n) (z false n)) (e j)
theorem Ye.o {a b c d e}(f:Ye.v a b c d e):Ye.c a b c d e:=Wa Tryz.func265 (x:=Ye.h) (R0 f)
def XC.h:Hn:=.q .o3 (.q (.q .o6 (.k (.loop [(15,.I)] (.q .o1 (.q (.c .l .l) (.q (.k (.q .o5 (.q .o6 (.q .o3 (.c (.q .o5 .l) .l))))) .o2)))))) (.q .o3 .l))
def XC.v (a:R2)(b:Int)(c:Hp)(d:Int->Int->Bool->Hp->Prop):Prop:=bE a 1 c λf=>W6 [bN] (λg=>g 0 c) λh (i:Int) j=>If (i<((f.len:Nat):Int)) (Ix f.a f.len i 1 λk=>mQ k j λl=>Nn i <| Nn i<|bL ((b.fdiv (2^(min i.toNat IntKind.i64.bits)))*2^(min i.toNat IntKind.i64.bits)) λm=>Lk .i64 .b l m j λn=>If (n.getD false) (d i m true j) (bL (i+1) λo=>h o j)) (d 0 0 false j)
theorem XC.o {a b c d}(e:XC.v a b c d):XC.c a b c d:=Wa Tryz.func273 (x:=XC.h) (R0 e)
def Zm.h:Hn:=.q (.k (.loop [(1,.I),(2,.I)] (.q (.q (.cV (.quiet [.op,.op,.op,.op,.op,.op,.op,.op,.op,.dD true 12 (RI.ops 12)])) (.c .l .l)) (.k (.q (.cV (.tail 11 (RI.ops 11) [.op])) (.q .o8 .o3)))))) .o9
def Zm.v (a:R2)(b c:Int)(d:Hp)(e:aP):Prop:=W6 [bN,bN] (λf=>f b c d) λg (h:Int) (i:Int) j=>bL (h+1) λk=>bE a 1 j λm=>bY (λn o=>If n (bE a 1 o λq=>Ix q.a q.len h 1 λr=>mQ r o λs=>Nn h<|bL ((1:Int)*2^(min h.toNat IntKind.i64.bits)) λt=>mK .i64 .b s (bits .xor .i64 i t) o λu=>bL (h+1) λv=>Nn v <| bL (h+1) λw=>Nn w<|bL ((i.fdiv (2^(min v.toNat IntKind.i64.bits)))*2^(min w.toNat IntKind.i64.bits)) λx=>bL (h+1) λy=>g y x u) (bE a 1 o λaa=>Ix aa.a aa.len h 1 λab=>mQ ab o λac=>k6 .i64 .b ac i true o λad=>e ad)) λae=>If (k<((m.len:Nat):Int)) (bE a 1 j λag=>Ix ag.a ag.len h 1 λah=>mQ ah j λai=>Nn h<|bL ((1:Int)*2^(min h.toNat IntKind.i64.bits)) λaj=>Lk .i64 .b ai (bits .xor .i64 i aj) j λak=>ae (ak.getD false) j) (ae false j)
theorem Zm.o {a b c d e}(f:Zm.v a b c d e):Zm.c a b c d e:=Wa Tryz.func286 (x:=Zm.h) (R0 f)
end Go.Proofs
namespace Go.Proofs
open Go.Vc
set_option maxRecDepth 100000
def Wc.h:Hn:=.q .o1 (.q (.q .o2 .aK) (.q .o4 .l))
def Wc.v (a:Sl)(b:Hp)(c:Sl->Hp->Prop):Prop:=If a.a.isNone (c ⟨none,0,0⟩ b) (aV #[] 31 b λd e=>App ⟨some d,0,0⟩ 3 24 31 [.I 0,.I 0,.I 0] a e λf g=>c f g)
theorem Wc.o {a b c}(d:Wc.v a b c):Wc.c a b c:=Wa Tryz.func68 (x:=Wc.h) (R0 d)
def Wl.h:Hn:=.q .o1 (.q (.q .o3 (.k (.loop [(8,.I)] (.q .o1 (.q (.c .l .l) (.q (.k (.q .o2 (.q .o6 .aJ))) .o2)))))) .aM)
def Wl.v (a:Sl)(b:Fv)(c:Hp)(d:aN):Prop:=W6 [bN] (λe=>e 0 c) λf (g:Int) h=>If (g<((a.len:Nat):Int)) (Ix a.a a.len g 3 λi=>aQ i 0 h λj=>aQ i 1 h λk=>aQ i 2 h λl=>VU Tryz.prog b [.agg #[.I j,.I k,.I l]] [.one .b] h λm n=>If m (d g n) (bL (g+1) λo=>f o n)) (d (-1) h)
theorem Wl.o {a b c d}(e:Wl.v a b c d):Wl.c a b c d:=Wa Tryz.func79 (x:=Wl.h) (R0 e)
def WH.h:Hn:=.q .o1 (.q (.q .o2 .aK) (.q .o4 .l))
def WH.v (a:Sl)(b:Hp)(c:Sl->Hp->Prop):Prop:=If a.a.isNone (c ⟨none,0,0⟩ b) (aV #[] 3 b λd e=>App ⟨some d,0,0⟩ 1 8 3 [.I 0] a e λf g=>c f g)
theorem WH.o {a b c}(d:WH.v a b c):WH.c a b c:=Wa Tryz.func90 (x:=WH.h) (R0 d)
def Wk.h:Hn:=.q .o1 (.q (.q .o3 (.k (.loop [(8,.I)] (.q .o1 (.q (.c .l .l) (.q (.k (.q .o2 (.q .o6 .aJ))) .o2)))))) .aM)
def Wk.v (a:Sl)(b:Fv)(c:Hp)(d:aN):Prop:=W6 [bN] (λe=>e 0 c) λf (g:Int) h=>If (g<((a.len:Nat):Int)) (Ix a.a a.len g 1 λi=>fZ i h λj=>VU Tryz.prog b [.pointer j] [.one .b] h λk l=>If k (d g l) (bL (g+1) λm=>f m l)) (d (-1) h)
theorem Wk.o {a b c d}(e:Wk.v a b c d):Wk.c a b c d:=Wa Tryz.func111 (x:=Wk.h) (R0 e)
def ZS.h:Hn:=.q .o1 (.q (.c .l .l) (.q .o3 .l))
def ZS.v (a:Int)(b:Hp)(c:aN):Prop:=ZG.c a b λd e=>c d e
theorem ZS.o {a b c}(d:ZS.v a b c):ZS.c a b c:=Wa Tryz.func129 (x:=ZS.h) (R0 d)
def XA.h:Hn:=.q .o1 (.q .o1 (.q (.q .o3 (.k (.loop [(3,.I),(11,.I)] (.q .o1 (.q (.c .l .l) (.q (.k (.q .o3 (.q .o5 (.q .o2 (.c .o2 .l))))) .o2)))))) (.q .o3 (.q (.q .o3 (.k (.loop [(6,.one .s),(27,.I)] (.q .o1 (.q (.c .l .l) (.q (.k (.q .o3 .o4)) .o2)))))) .aL))))
def XA.v (a:Sl)(b:Hp)(c:Sl->Hp->Prop):Prop:=W6 [bN,bN] (λd=>d 0 0 b) λe (f:Int) (g:Int) h=>If (g<((a.len:Nat):Int)) (Ix a.a a.len g 1 λi=>jk i h λj=>bL (f+((j.len:Nat):Int)) λk=>If (k<0) (False) (bL (g+1) λl=>e k l h)) (XH.c ⟨none,0,0⟩ f h λm n=>W6 [.s,bN] (λo=>o m 0 n) λp (q:Sl) (r:Int) s=>If (r<((a.len:Nat):Int)) (Ix a.a a.len r 1 λt=>jk t s λu=>App q 1 8 3 [.I 0] u s λv w=>bL (r+1) λx=>p v x w) (c q s))
theorem XA.o {a b c}(d:XA.v a b c):XA.c a b c:=Wa Tryz.func140 (x:=XA.h) (R0 d)
def Wj.h:Hn:=.q .o2 (.q .o5 .l)
def Wj.v (a:Sl)(b c:Bool)(d:Hp)(e:aO):Prop:=aV #[.bool b,.bool c] 160 d λf g=>aZ f 0 g λh=>aZ f 1 g λi=>Wn.c a h i g λj k=>e (decide (j≥0)) k
theorem Wj.o {a b c d e}(f:Wj.v a b c d e):Wj.c a b c d e:=Wa Tryz.func147 (x:=Wj.h) (R0 f)
def ZG.h:Hn:=.q .o1 (.jI [(0,.one (.i .u64)),(2,.I)] (.q .o2 (.c (.q .o3 .o1) .l)) (.jI [(0,.one (.i .u64)),(2,.I)] (.q .o2 (.c (.q .o3 .o3) .l)) (.jI [(0,.one (.i .u64)),(2,.I)] (.q .o2 (.c (.q .o3 .o3) .l)) (.q .o7 .l))))
def ZG.v (a:Int)(b:Hp)(c:aN):Prop:=Jn [(.i .u64),bN] (λ(d:Int) (e:Int) f=>Jn [(.i .u64),bN] (λ(g:Int) (h:Int) i=>Jn [(.i .u64),bN] (λ(j:Int) (k:Int) l=>Ar .u8 j λm=>Iw (ByteArray.mk #[0,1,2,2,3,3,3,3,4,4,4,4,4,4,4,4,5,5,5,5,5,5,5,5,5,5,5,5,5,5,5,5,6,6,6,6,6,6,6,6,6,6,6,6,6,6,6,6,6,6,6,6,6,6,6,6,6,6,6,6,6,6,6,6,7,7,7,7,7,7,7,7,7,7,7,7,7,7,7,7,7,7,7,7,7,7,7,7,7,7,7,7,7,7,7,7,7,7,7,7,7,7,7,7,7,7,7,7,7,7,7,7,7,7,7,7,7,7,7,7,7,7,7,7,7,7,7,7,8,8,8,8,8,8,8,8,8,8,8,8,8,8,8,8,8,8,8,8,8,8,8,8,8,8,8,8,8,8,8,8,8,8,8,8,8,8,8,8,8,8,8,8,8,8,8,8,8,8,8,8,8,8,8,8,8,8,8,8,8,8,8,8,8,8,8,8,8,8,8,8,8,8,8,8,8,8,8,8,8,8,8,8,8,8,8,8,8,8,8,8,8,8,8,8,8,8,8,8,8,8,8,8,8,8,8,8,8,8,8,8,8,8,8,8,8,8,8,8,8,8,8,8,8,8,8,8]) m λn=>bL n λo=>bL (k+o) λp=>c p l) λq=>If (g≥256) (Nn (8:Int) <| bL (h+8) λr=>q (g.fdiv (2^(min (8:Int).toNat IntKind.u64.bits))) r i) (q g h i)) λs=>If (d≥65536) (Nn (16:Int) <| bL (e+16) λt=>s (d.fdiv (2^(min (16:Int).toNat IntKind.u64.bits))) t f) (s d e f)) λu=>If (a≥4294967296) (Nn (32:Int) <| u (a.fdiv (2^(min (32:Int).toNat IntKind.u64.bits))) 32 b) (u a 0 b)
theorem ZG.o {a b c}(d:ZG.v a b c):ZG.c a b c:=Wa Tryz.func168 (x:=ZG.h) (R0 d)
def Wp.h:Hn:=.q .o1 (.q (.q .o2 .aK) (.q .o4 .l))
def Wp.v (a:Sl)(b:Hp)(c:Sl->Hp->Prop):Prop:=If a.a.isNone (c ⟨none,0,0⟩ b) (aV #[] 130 b λd e=>App ⟨some d,0,0⟩ 2 32 130 [.I 0,.slice none 0 0] a e λf g=>c f g)
theorem Wp.o {a b c}(d:Wp.v a b c):Wp.c a b c:=Wa Tryz.func185 (x:=Wp.h) (R0 d)
def XH.h:Hn:=.q .o1 (.jI [] (.q .o2 (.c .o2 .l)) (.q (.q .o8 (.q .o2 (.c .fV .l))) .aL))
def XH.v (a:Sl)(b:Int)(c:Hp)(d:Sl->Hp->Prop):Prop:=Jn [] (λe=>bL (((a.cap:Nat):Int)-((a.len:Nat):Int)) λf=>bL (b-f) λg=>If (g>0) (eW a 1 0 ((a.cap:Nat):Int) (a.cap:Nat) λh=>rD h 1 8 3 [.I 0] g e λi j=>eW i 1 0 ((a.len:Nat):Int) (i.cap:Nat) λk=>d k j) (d a e)) λl=>If (b<0) (False) (l c)
theorem XH.o {a b c d}(e:XH.v a b c d):XH.c a b c d:=Wa Tryz.func201 (x:=XH.h) (R0 e)
def Wn.h:Hn:=.q .o2 (.q (.q .o3 (.k (.loop [(8,.I)] (.q .o1 (.q (.c .l .l) (.q (.k (.q .o2 (.q (.oq 6) .aJ))) .o2)))))) .aM)
def Wn.v (a:Sl)(b c:Bool)(d:Hp)(e:aN):Prop:=aV #[.bool b,.bool c] 160 d λf g=>W6 [bN] (λh=>h 0 g) λi (j:Int) k=>If (j<((a.len:Nat):Int)) (aZ f 0 k λl=>aZ f 1 k λm=>Ix a.a a.len j 2 λn=>aZ n 0 k λo=>aZ n 1 k λp=>If ((l==o)&&((m==p)&&true)) (e j k) (bL (j+1) λq=>i q k)) (e (-1) k)
theorem Wn.o {a b c d e}(f:Wn.v a b c d e):Wn.c a b c d e:=Wa Tryz.func203 (x:=Wn.h) (R0 f)
def W0.h:Hn:=.q .o5 (.k (.loop [(2,.I),(3,.I)] (.q (.q .o3 (.c .l .l)) (.q (.k (.cV (.held true [13,15] (.tk [0,1,2,3,4,5,6,7,8,9,10,11,12] (.all [(13,.take 14 (.all [(15,.done)]))]))))) .o6))))
def W0.v (a:Sl)(b:Hp)(c:aP):Prop:=bL (((a.len:Nat):Int)-1) λd=>W6 [bN,bN] (λe=>e 0 d b) λf (g:Int) (h:Int) i=>If (g<h) (dT i λj=>Ix a.a a.len h 1 λk=>gQ j bN k λ(l:Int)=>Ix a.a a.len g 1 λm=>gQ j bN m λ(n:Int)=>Ix a.a a.len g 1 λo=>dL o (.I l) i λp=>Ix a.a a.len h 1 λq=>dL q (.I n) p λr=>bL (g+1) λs=>bL (h-1) λt=>f s t r) (c i)
theorem W0.o {a b c}(d:W0.v a b c):W0.c a b c:=Wa Tryz.func217 (x:=W0.h) (R0 d)
def Wf.h:Hn:=.q .o1 (.q .o4 (.q (.q .o2 .aJ) (.q (.q .o3 (.k (.loop [(5,.I),(6,.I)] (.q (.q .o4 (.c .l .l)) (.q (.k (.q .o6 (.q .o4 (.c (.q .o5 .o3) .l)))) .o3))))) (.q .o4 (.q .o4 .l)))))
def Wf.v (a:Sl)(b:Fv)(c:Hp)(d:Sl->Hp->Prop):Prop:=Wi.c a b c λe f=>If (e==(-1)) (d a f) (bL (e+1) λg=>W6 [bN,bN] (λh=>h e g f) λi (j:Int) (k:Int) l=>If (k<((a.len:Nat):Int)) (Ix a.a a.len k 3 λm=>aQ m 0 l λn=>aQ m 1 l λo=>aY m 2 l λp=>aV #[.I 0,.I 0,.pointer none] 210 l λq r=>aR q 0 (.I n) r λs=>aR q 1 (.I o) s λt=>aR q 2 (.pointer p) t λu=>aQ q 0 u λv=>aQ q 1 u λw=>aY q 2 u λx=>VU Tryz.prog b [.agg #[.I v,.I w,.pointer x]] [.one .b] u λy z=>If (!y) (aQ q 0 z λaa=>aQ q 1 z λab=>aY q 2 z λac=>Ix a.a a.len j 3 λad=>aR ad 0 (.I aa) z λae=>aR ad 1 (.I ab) ae λaf=>aR ad 2 (.pointer ac) af λag=>bL (j+1) λah=>bL (k+1) λai=>i ah ai ag) (bL (k+1) λaj=>i j aj z)) (eW a 3 j (a.len:Nat) (a.cap:Nat) λak=>By ak [.I 0,.I 0,.pointer none] l λal=>eW a 3 0 j (a.cap:Nat) λam=>d am al))
theorem Wf.o {a b c d}(e:Wf.v a b c d):Wf.c a b c d:=Wa Tryz.func227 (x:=Wf.h) (R0 e)
def WP.h:Hn:=.q .o3 .o7
def WP.v (a:Sl)(b:Fv)(c:Hp)(d:aP):Prop:=Ar .u64 ((a.len:Nat):Int) λe=>ZS.c e c λf g=>WN.c a 0 ((a.len:Nat):Int) f b g λh=>d h
theorem WP.o {a b c d}(e:WP.v a b c d):WP.c a b c d:=Wa Tryz.func232 (x:=WP.h) (R0 e)
def Wb.h:Hn:=.q .o2 (.q .o3 (.q .o3 (.q (.k (.loop [(9,.I),(10,.I)] (.q (.q .o3 (.c .l .l)) (.k (.q .o7 (.q .o8 (.c .o3 .o2))))))) (.q (.cV (.seq [.op,.op,.op,.op,.op,.dD true 8 (RI.ops 8),.op,.op])) .l))))
def Wb.v (a:Sl)(b:Int)(c:Fv)(d:Hp)(e:Int->Bool->Hp->Prop):Prop:=W6 [bN,bN] (λf=>f 0 ((a.len:Nat):Int) d) λg (h:Int) (i:Int) j=>If (h<i) (bL (h+i) λk=>Ar .u64 k λl=>Nn (1:Int) <| bL (l.fdiv (2^(min (1:Int).toNat IntKind.u64.bits))) λm=>Ix a.a a.len m 3 λn=>aQ n 0 j λo=>aQ n 1 j λp=>aY n 2 j λq=>VU Tryz.prog c [.agg #[.I o,.I p,.pointer q],.I b] [.I] j λr s=>If (r<0) (bL (m+1) λt=>g t i s) (g h m s)) (bY (λu v=>e h u v) λw=>If (h<((a.len:Nat):Int)) (Ix a.a a.len h 3 λx=>aQ x 0 j λy=>aQ x 1 j λz=>aY x 2 j λaa=>VU Tryz.prog c [.agg #[.I y,.I z,.pointer aa],.I b] [.I] j λab ac=>w (ab==0) ac) (w false j))
theorem Wb.o {a b c d e}(f:Wb.v a b c d e):Wb.c a b c d e:=Wa Tryz.func257 (x:=Wb.h) (R0 f)
def Wg.h:Hn:=.q .o1 (.q .o3 (.q .o3 (.q (.q .o2 .aJ) (.q .o3 (.q (.q .o3 (.c (.q .o4 .l) .l)) (.q (.q .o6 (.c (.q .fV (.q .o5 (.q (.cV (.tail 8 (RI.ops 8) [.op])) .aL))) .l)) (.q .o6 (.q (.q .o8 (.c (.q (.cV (.tail 8 (RI.ops 8) [.op])) (.q .o5 .aL)) .l)) (.q .o5 (.q .o5 .aL))))))))))
def Wg.v (a:Sl)(b:Int)(c:Sl)(d:Hp)(e:Sl->Hp->Prop):Prop:=eW a 3 b (a.len:Nat) (a.cap:Nat) λf=>If (((c.len:Nat):Int)==0) (e a d) (If (b==((a.len:Nat):Int)) (App a 3 24 210 [.I 0,.I 0,.pointer none] c d λg h=>e g h) (bL (((a.len:Nat):Int)+((c.len:Nat):Int)) λi=>If (i>((a.cap:Nat):Int)) (eW a 3 0 b (a.cap:Nat) λj=>bL (((a.len:Nat):Int)+((c.len:Nat):Int)) λk=>bL (k-b) λl=>rD j 3 24 210 [.I 0,.I 0,.pointer none] l d λm n=>eW m 3 b (m.len:Nat) (m.cap:Nat) λo=>tV o 3 c n λp q=>bL (b+((c.len:Nat):Int)) λr=>eW m 3 r (m.len:Nat) (m.cap:Nat) λs=>eW a 3 b (a.len:Nat) (a.cap:Nat) λt=>tV s 3 t q λu v=>e m v) (bL (((a.len:Nat):Int)+((c.len:Nat):Int)) λw=>eW a 3 0 w (a.cap:Nat) λx=>bL (b+((c.len:Nat):Int)) λy=>eW x 3 y (x.len:Nat) (x.cap:Nat) λz=>sW Tryz.prog 282 [.slice c.a c.len c.cap,.slice z.a z.len z.cap] d λaa ab=>If (!aa) (bL (b+((c.len:Nat):Int)) λac=>eW x 3 ac (x.len:Nat) (x.cap:Nat) λad=>eW x 3 b (x.len:Nat) (x.cap:Nat) λae=>tV ad 3 ae ab λaf ag=>eW x 3 b (x.len:Nat) (x.cap:Nat) λah=>tV ah 3 c ag λai aj=>e x aj) (eW x 3 ((a.len:Nat):Int) (x.len:Nat) (x.cap:Nat) λak=>tV ak 3 c ab λal am=>eW x 3 b (x.len:Nat) (x.cap:Nat) λan=>Kq.c an ((c.len:Nat):Int) am λao=>e x ao))))
theorem Wg.o {a b c d e}(f:Wg.v a b c d e):Wg.c a b c d e:=Wa Tryz.func259 (x:=Wg.h) (R0 f)
def Xh.h:Hn:=.q .o1 (.q .o7 .l)
def Xh.v (a:Sl)(b:Hp)(c:Sl->Hp->Prop):Prop:=eW a 1 0 ((a.len:Nat):Int) ((a.len:Nat):Int) λd=>c d b
theorem Xh.o {a b c}(d:Xh.v a b c):Xh.c a b c:=Wa Tryz.func260 (x:=Xh.h) (R0 d)
def Wi.h:Hn:=.q .o1 (.q (.q .o3 (.k (.loop [(8,.I)] (.q .o1 (.q (.c .l .l) (.q (.k (.q .o2 (.q .o6 .aJ))) .o2)))))) .aM)
def Wi.v (a:Sl)(b:Fv)(c:Hp)(d:aN):Prop:=W6 [bN] (λe=>e 0 c) λf (g:Int) h=>If (g<((a.len:Nat):Int)) (Ix a.a a.len g 3 λi=>aQ i 0 h λj=>aQ i 1 h λk=>aY i 2 h λl=>VU Tryz.prog b [.agg #[.I j,.I k,.pointer l]] [.one .b] h λm n=>If m (d g n) (bL (g+1) λo=>f o n)) (d (-1) h)
theorem Wi.o {a b c d}(e:Wi.v a b c d):Wi.c a b c d:=Wa Tryz.func266 (x:=Wi.h) (R0 e)
def Wx.h:Hn:=.q .o1 (.q .o5 .l)
def Wx.v (a:Sl)(b:Fv)(c:Hp)(d:aO):Prop:=WW.c a b c λe f=>d (decide (e≥0)) f
theorem Wx.o {a b c d}(e:Wx.v a b c d):Wx.c a b c d:=Wa Tryz.func268 (x:=Wx.h) (R0 e)
def Wo.h:Hn:=.q .o1 (.q .o5 .l)
def Wo.v (a:Sl)(b:Int)(c:Hp)(d:aO):Prop:=WG.c a b c λe f=>d (decide (e≥0)) f
theorem Wo.o {a b c d}(e:Wo.v a b c d):Wo.c a b c d:=Wa Tryz.func270 (x:=Wo.h) (R0 e)
def WQ.h:Hn:=.q .o1 (.q (.q .o2 .aK) (.q .o4 .l))
def WQ.v (a:Sl)(b:Hp)(c:Sl->Hp->Prop):Prop:=If a.a.isNone (c ⟨none,0,0⟩ b) (aV #[] 69 b λd e=>App ⟨some d,0,0⟩ 1 24 69 [.slice none 0 0] a e λf g=>c f g)
theorem WQ.o {a b c}(d:WQ.v a b c):WQ.c a b c:=Wa Tryz.func274 (x:=WQ.h) (R0 d)
def X6.h:Hn:=.q .o1 (.jI [] (.q .o3 (.c .o2 .l)) (.q .o4 (.q (.q .o1 (.k (.loop [(3,.I),(4,.I)] (.q (.q .o4 (.c .l .l)) (.q (.k .o7) .o3))))) .aL)))
def X6.v (a:Sl)(b:Hp)(c:aN):Prop:=Jn [] (λd=>Ix a.a a.len 0 1 λe=>bM e d λf=>W6 [bN,bN] (λg=>g f 1 d) λh (i:Int) (j:Int) k=>If (j<((a.len:Nat):Int)) (Ix a.a a.len j 1 λl=>bM l k λm=>bL (j+1) λn=>h (if m<i then m else i) n k) (c i k)) λo=>If (((a.len:Nat):Int)<1) (False) (o b)
theorem X6.o {a b c}(d:X6.v a b c):X6.c a b c:=Wa Tryz.func278 (x:=X6.h) (R0 d)
def Wr.h:Hn:=.q .o3 (.k (.loop [(8,.I)] (.q (.q .o3 (.c .l .l)) (.q (.k (.q .o2 (.k (.loop [(9,.I)] (.q (.q (.cV (.iw true [14] [(34,.one .b)] (.tk [0,1,2,3] (.split 21 (.tk [4,5,6,7,8,9,10,11,12,13] (.all [(14,.take 15 (.take 16 (.done)))])) (.take 4 (.take 5 (.take 6 (.take 7 (.take 8 (.take 9 (.take 10 (.take 11 (.take 12 (.take 13 (.all [(14,.take 15 (.take 16 (.done)))]))))))))))))))) (.c .l .l)) (.q (.k (.cV (.held true [15,17] (.take 0 (.take 1 (.take 2 (.take 3 (.take 4 (.take 5 (.take 6 (.take 7 (.take 8 (.take 9 (.take 10 (.take 11 (.take 12 (.take 13 (.take 14 (.all [(15,.take 16 (.all [(17,.done)]))]))))))))))))))))))) .o3)))))) .o3))))
def Wr.v (a:Sl)(b c:Int)(d:Fv)(e:Hp)(f:aP):Prop:=bL (b+1) λg=>W6 [bN] (λh=>h g e) λi (j:Int) k=>If (j<c) (W6 [bN] (λl=>l j k) λm (n:Int) o=>Jn [.b] (λ(p:Bool) q=>If p (dT q λr=>bL (n-1) λs=>bL (n-1) λt=>Ix a.a a.len t 1 λu=>gQ r bN u λ(v:Int)=>Ix a.a a.len n 1 λw=>gQ r bN w λ(x:Int)=>Ix a.a a.len n 1 λy=>dL y (.I v) q λz=>Ix a.a a.len s 1 λaa=>dL aa (.I x) z λab=>bL (n-1) λac=>m ac ab) (bL (j+1) λad=>i ad q)) λae=>dT o λaf=>If (n>b) (Ix a.a a.len n 1 λag=>gQ af bN ag λ(ah:Int)=>bL (n-1) λai=>Ix a.a a.len ai 1 λaj=>gQ af bN aj λ(ak:Int)=>VU Tryz.prog d [.I ah,.I ak] [.I] o λal am=>ae (decide (al<0)) am) (ae false o)) (f k)
theorem Wr.o {a b c d e f}(g:Wr.v a b c d e f):Wr.c a b c d e f:=Wa Tryz.func287 (x:=Wr.h) (R0 g)
def WW.h:Hn:=.q .o1 (.q (.q .o3 (.k (.loop [(8,.I)] (.q .o1 (.q (.c .l .l) (.q (.k (.q .o2 (.q .o6 .aJ))) .o2)))))) .aM)
def WW.v (a:Sl)(b:Fv)(c:Hp)(d:aN):Prop:=W6 [bN] (λe=>e 0 c) λf (g:Int) h=>If (g<((a.len:Nat):Int)) (Ix a.a a.len g 1 λi=>bM i h λj=>VU Tryz.prog b [.I j] [.one .b] h λk l=>If k (d g l) (bL (g+1) λm=>f m l)) (d (-1) h)
theorem WW.o {a b c d}(e:WW.v a b c d):WW.c a b c d:=Wa Tryz.func295 (x:=WW.h) (R0 e)
def WG.h:Hn:=.q .o1 (.q (.q .o3 (.k (.loop [(8,.I)] (.q .o1 (.q (.c .l .l) (.q (.k (.q .o2 (.q .o6 .aJ))) .o2)))))) .aM)
def WG.v (a:Sl)(b:Int)(c:Hp)(d:aN):Prop:=W6 [bN] (λe=>e 0 c) λf (g:Int) h=>If (g<((a.len:Nat):Int)) (Ix a.a a.len g 1 λi=>bM i h λj=>If (b==j) (d g h) (bL (g+1) λk=>f k h)) (d (-1) h)
theorem WG.o {a b c d}(e:WG.v a b c d):WG.c a b c d:=Wa Tryz.func296 (x:=WG.h) (R0 e)
def Wh.h:Hn:=.q .o1 (.q .o5 .l)
def Wh.v (a:Sl)(b:Fv)(c:Hp)(d:aO):Prop:=Wm.c a b c λe f=>d (decide (e≥0)) f
theorem Wh.o {a b c d}(e:Wh.v a b c d):Wh.c a b c d:=Wa Tryz.func300 (x:=Wh.h) (R0 e)
def Wm.h:Hn:=.q .o1 (.q (.q .o3 (.k (.loop [(8,.I)] (.q .o1 (.q (.c .l .l) (.q (.k (.q .o2 (.q .o6 .aJ))) .o2)))))) .aM)
def Wm.v (a:Sl)(b:Fv)(c:Hp)(d:aN):Prop:=W6 [bN] (λe=>e 0 c) λf (g:Int) h=>If (g<((a.len:Nat):Int)) (Ix a.a a.len g 2 λi=>aZ i 0 h λj=>aZ i 1 h λk=>VU Tryz.prog b [.agg #[.bool j,.bool k]] [.one .b] h λl m=>If l (d g m) (bL (g+1) λn=>f n m)) (d (-1) h)
theorem Wm.o {a b c d}(e:Wm.v a b c d):Wm.c a b c d:=Wa Tryz.func314 (x:=Wm.h) (R0 e)
end Go.Proofs
namespace Go.Bu
open Go Go.Vc Go.Proofs
variable {σ:Hp}{p n sb:Nat}{S:Nat->Bool}{ms:List Nat}
theorem nq {k:Nat}{K:Int->Prop}(hk:k<=62)(hK:K ((2^k:Nat):Int)):Nn (k:Int) (Ar .i64 (1*2^(min (k:Int).toNat IntKind.i64.bits)) K):=by
 refine nn O ?_;rw[D3 hk];exact cA aA (JU hk) hK
theorem AF {a k:Nat}{K:Int->Prop}(hk:k<=62)(ha:a*2^k<=4611686018427387904)(hK:K ((a*2^k:Nat):Int)):Ar .i64 ((a:Int)*2^(min (k:Int).toNat IntKind.i64.bits)) K:=by
 rw[D3 hk];exact cA aA ha hK
theorem tn {x k j:Nat}{K:Int->Prop}(hj:j=k)(hk:k<=62)(hx:x<=4611686018427387904)(hK:K ((x/2^k*2^k:Nat):Int)) :
 Ar .i64 (((x:Int).fdiv (2^(min (k:Int).toNat IntKind.i64.bits)))*2^(min (j:Int).toNat IntKind.i64.bits)) K:=by
 subst hj;rw[D3 hk,IP];refine cA aA ?_ hK;exact zI (yI _ _) hx
theorem BH.rN (h:BH σ p n S sb ms){K:Int->Prop}(hK:K (n:Int)):fF .i64 (Addr.add ⟨p,0,none⟩ 0) σ K:=dS h.TV hK
theorem BH.rB (h:BH σ p n S sb ms){K:Sl->Prop}(hK:∀cap,K ⟨some ⟨sb,0,none⟩,ms.length,cap⟩):jk (Addr.add ⟨p,0,none⟩ 1) σ K:=by
 obtain⟨cap,a⟩:=h.lO;rw[add_lit];exact oA a (hK cap)
theorem BH.rM (h:BH σ p n S sb ms){k m:Nat}(hm:ms[k]?=some m){K:Option Nat->Prop}(hK:K (some m)):Ix (some ⟨sb,0,none⟩) ms.length (k:Int) 1 λa=>mQ a σ K:=by
 refine ix O (by have:=(cQ.1 hm).1;omega) ?_;rw[add_lit];refine I0 ?_ hK;have:=h.M7 hm;simpa using this
theorem yl (h:BH σ p n S sb ms){R:aO}(hR:R true σ):XU.c (aW p) σ R:=by
 refine XU.o ?_;unfold XU.v;refine bY.intro (cK rfl (aG (h.rN ?_)));have:=h.n1;rw[zV O];exact hR
def Zf (n:Nat)(start aF:Int):Bool:=decide (0<=start)&&(decide (1<=aF)&&decide (aF<=n-start))
theorem Fs (h:BH σ p n S sb ms)(start aF:Int){R:aN}(h0:Zf n start aF=true->R 0 σ)(h1:Zf n start aF=false->R 1 σ):Ys.c (aW p) start aF σ R:=by
 refine Ys.o ?_;unfold Ys.v;have a:¬(0<=start/\1<=aF/\aF<=n-start)->R 1 σ:=λb=>h1 (by simp only[Zf,←vO];exact zh b);have n1:=h.n1;have n2:=h.n2;refine yl h (cG rfl (bY.intro ?_));refine cI (λh1=>bY.intro (cK rfl (bY.intro (cK rfl (cK rfl (a O)))))) λh1=>?_;refine bY.intro (cI (λg=>bY.intro (cK rfl (cK rfl (a O)))) λg=>?_);refine aG (h.rN ?_);refine bY.intro (cI (λe=>cK rfl (a O)) λe=>?_);refine aG (h.rN (ar O O ?_));refine cI (λd=>a O) λd=>h0 ?_;simp only[Zf,zF,zS];omega
theorem Eu (h:BH σ p n S sb ms)(x:Nat)(hx:x<=4611686018427387904){R:Int->Int->Bool->Hp->Prop}
 (h1:∀k q,can S k q=true->x/2^k=q->R (k:Int) ((q*2^k:Nat):Int) true σ) (h0:S x=false->R 0 0 false σ):XC.c (aW p) (x:Int) σ R:=by
 refine XC.o ?_;unfold XC.v;refine aG (h.rB λcap=>?_);refine ZU (a:=bN) (λt u=>∃k:Nat,t=(k:Int)/\k<=ms.length/\u=σ/\∀j,j<k->can S j (x/2^j)=false) (λt _=>ms.length-t.toNat) ⟨0,rfl,O,rfl,λj d=>O⟩ ?_;rintro t u ⟨k,rfl,y,rfl,b⟩;have w:=h.len;refine cI (λg=>?_) (λr=>?_)
 ·simp only at g;obtain⟨m,s⟩:=h.get (k:=k) O;refine h.rM s (nn O (nn O (tn rfl O hx (h.lk s rfl ?_))));cases hc:can S k (x/2^k)
  ·refine cG aA (cA (m:=k+1) O O ?_);refine⟨⟨k+1,rfl,O,rfl,λj d=>?_⟩,O⟩;by_cases e:j=k
   ·rw[e];exact hc
   ·exact b j O
  ·exact cK aA (h1 k _ hc rfl)
 ·simp only at r;refine h0 ?_;cases hs:S x
  ·rfl
  ·obtain⟨j,d⟩:=VM h.jG hs;have:=h.fits (ZQ h.jG (ZL.1 d).1);rw[b j O]at d;cases d
def mP (S:Nat->Bool)(x:Int):Bool:=decide (0<=x)&&S x.toNat
theorem LB (h:BH σ p n S sb ms)(x:Int){R:aO}(hR:R (mP S x) σ):XW.c (aW p) x σ R:=by
 refine XW.o ?_;unfold XW.v;have n2:=h.n2;refine yl h (bY.intro (cG rfl ?_));refine bY.intro (cI (λg=>cK rfl ?_) λg=>aG (h.rN ?_))
 ·have:mP S x=false:=by simp[mP];intro;omega
  rw[this]at hR;exact hR
 ·refine cI (λb=>?_) λb=>?_
  ·have:mP S x=false:=by
    simp only[mP];cases a:S x.toNat
    ·simp
    ·have:=h.jG _ a;omega
   rw[this]at hR;exact hR
  ·obtain⟨y,rfl⟩:=zi (show 0<=x by omega);have e:mP S (y:Int)=S y:=by simp[mP]
   rw[e]at hR;refine Eu h y O (λk q d i=>?_) λa=>?_
   ·rw[KT d i]at hR;exact hR
   ·rw[a]at hR;exact hR
theorem Ry {k q:Nat}(h:BH σ p n S sb ms)(hf:q*2^k+2^k<=n)(hd:∀x,x/2^k=q->S x=false){R:aP}
 (hR:∀σ',Ext (· ∈ ms) σ σ'->BH σ' p n (ins S k q) sb ms->R σ'):Zm.c (aW p) (k:Int) ((q*2^k:Nat):Int) σ R:=by
 refine Zm.o ?_;unfold Zm.v;refine Kf (a:=bN) (bb:=bN)
  (λo s C=>∃(j r:Nat) (T:Nat->Bool),o=(j:Int)/\s=((r*2^j:Nat):Int)/\r*2^j+2^j<=n/\BH C p n T sb ms/\Ext (· ∈ ms) σ C/\(∀x,x/2^j=r->T x=false)/\ins T j r=ins S k q)
  (λo _ _=>ms.length-o.toNat) ⟨k,q,S,rfl,rfl,hf,h,Ext.refl _ _,hd,rfl⟩ ?_
 rintro o s C ⟨j,r,T,rfl,rfl,A,d,N,z,y⟩;have Y:=d.len;have V:=d.fits A;have U:=d.n2;have W:=lb j;obtain⟨m,B⟩:=d.get V;have w:¬full (ins T j r) (j+1) (r/2)=true->(bS (some ⟨p,0,none⟩) λK=>jk (K.add 1) C λE=>Ix E.a E.len (j:Int) 1 λJ=>mQ J C λL=>k6 .i64 .b L ((r*2^j:Nat):Int) true C λv3=>R v3):=by
  intro g;refine aG (d.rB λcap=>d.rM B ?_);refine d.wF B z g A rfl λD e G=>hR D (N.trans e) ?_;rw[←y];exact G
 refine cA (m:=j+1) O O (aG (d.rB λcap=>bY.intro ?_));refine cI (λH=>?_) (λM=>?_)
 ·simp only at H;refine aG (d.rB λcap=>d.rM B (nq O ?_));have P:=JU (show j<=62 by omega);have F:bits .xor .i64 ((r*2^j:Nat):Int) ((2^j:Nat):Int)=((iu r*2^j:Nat):Int):=by
   rw[NC O O,φ]
  rw[F];refine d.lk B rfl ?_;cases hc:can T j (iu r)
  ·refine cG aA (w (χ z (by simp[hc])))
  ·refine cK aA ?_;refine aG (d.rB λcap=>d.rM B (nq O ?_));rw[F];refine d.se B hc rfl λD e G=>?_;refine cA (m:=j+1) O O (nn O (cA (m:=j+1) O O (nn O ?_)));refine tn rfl O O ?_;refine cA (m:=j+1) O O ⟨⟨j+1,r/2,del T j (iu r),rfl,?_,?_,G,N.trans e,?_,?_⟩,O⟩
   ·rw[nk,←uh,KC]
   ·-- both halves lie within
    have u:=ZQ d.jG (ZL.1 hc).1;have X:r/2*2^(j+1)=(r/2*2)*2^j:=by rw[nk,Nat.mul_comm (2^j) 2,←xe]
    rw[X,nk];have g:(r/2*2)+1=r\/(r/2*2)+1=iu r:=by unfold iu;split<;>omega
    have Q:(r/2*2)*2^j+2^j*2=((r/2*2)+1)*2^j+2^j:=by rw[zk];omega
    rw[Q];rcases g with e4|e4<;>rw[e4]<;>assumption
   ·intro x F;rcases HB.1 F with u|u
    ·simp[del,z x u]
    ·simp[del,u]
   ·rw[←y];refine tG λx=>?_;rw[VH,VH,VJ,HB];by_cases u:x/2^j=iu r
    ·simp[u,KT hc u]
    ·simp[u]
 ·simp only at M;refine cG rfl (w λg=>?_);have:=ZQ (JO d.jG A) g;have u:2^ms.length<=2^(j+1):=oK aB O;have:=d.hi;omega
theorem CU {a m:Nat}(h:BH σ p n S sb ms)(hf:a+m<=n)(hd:∀x,a<=x->x<a+m->S x=false){R:aP}
 (hR:∀σ',Ext (· ∈ ms) σ σ'->BH σ' p n (dI S a (a+m)) sb ms->R σ'):Ye.c (aW p) (a:Int) (m:Int) σ R:=by
 refine Ye.o ?_;unfold Ye.v;have M:=h.n2;refine Kf (a:=bN) (bb:=bN)
  (λs c y=>∃(a' r:Nat),s=(a':Int)/\c=(r:Int)/\a<=a'/\a'+r=a+m/\BH y p n (dI S a a') sb ms/\Ext (· ∈ ms) σ y)
  (λ_ c _=>c.toNat) ⟨a,m,rfl,rfl,O,rfl,by rw[TN];exact h,Ext.refl _ _⟩ ?_
 rintro s c y ⟨a',r,rfl,rfl,B,K,E,H⟩;refine cI (λG=>?_) (λV=>?_)
 ·refine ZU (a:=bN) (λk u=>∃j q:Nat,k=(j:Int)/\a'=q*2^j/\2^j<=r/\u=y) (λk _=>12-k.toNat) ⟨0,a',rfl,by simp,by simp;omega,rfl⟩ ?_;rintro k u ⟨j,q,rfl,Q,L,rfl⟩;have U:j<=10:=by
   apply Classical.byContradiction;intro hc;have:2^11<=2^j:=oK aB O;omega
  refine cA (m:=j+1) O O (nn O (cA (m:=j+1) O O (nn O ?_)));refine tn rfl O O (bY.intro ?_);have g:(Zm.c (aW p) (j:Int) (a':Int) u λv3=>
   Nn (j:Int)<|Ar .i64 (1*2^(min (j:Int).toNat IntKind.i64.bits)) λC=>Ar .i64 ((a':Int)+C) λd=>
   Nn (j:Int)<|Ar .i64 (1*2^(min (j:Int).toNat IntKind.i64.bits)) λz=>Ar .i64 ((r:Int)-z) λb=>
   (∃(a'' m'':Nat),d=(a'':Int)/\b=(m'':Int)/\a<=a''/\a''+m''=a+m/\BH v3 p n (dI S a a'') sb ms/\Ext (· ∈ ms) σ v3)/\b.toNat<(r:Int).toNat):=by
   subst Q;refine Ry E O (λx J=>?_) λv3 e w=>?_
   ·have:=Qe.1 J;have P:=hd x O O;simp only[dI,P,yN];rw[zh (show ¬x<q*2^j by omega),sH]
   ·have A:=lb j;refine nq O (cA (m:=q*2^j+2^j) O O (nq O (cA (m:=r-2^j) O O ?_)));refine⟨⟨_,_,rfl,rfl,O,O,?_,H.trans e⟩,O⟩;rw[Re,Ν B O]at w;exact w
  refine cU (λF=>?_) (λF=>cG rfl g);have D:a'/2^(j+1)*2^(j+1)=a':=by
   have:=zX.1 F
   exact_mod_cast this
  refine cA (m:=j+1) O O (nq O ?_);refine cI (λN=>?_) λ_=>g;refine cA (m:=j+1) O O ⟨⟨j+1,a'/2^(j+1),rfl,D.symm,O,rfl⟩,O⟩
 ·have:r=0:=by omega
  subst this;have:a'=a+m:=by omega
  subst this;exact hR y H E
theorem J7 {a m:Nat}(h:BH σ p n S sb ms)(hf:a+m<=n)(hd:∀x,a<=x->x<a+m->S x=true){R:aP}
 (hR:∀σ',Ext (· ∈ ms) σ σ'->BH σ' p n (take S a (a+m)) sb ms->R σ'):Zs.c (aW p) (a:Int) (m:Int) σ R:=by
 refine Zs.o ?_;unfold Zs.v;have U:=h.n2;refine ZU (a:=bN) (λs w=>∃x:Nat,s=(x:Int)/\a<=x/\BH w p n (take S a (min x (a+m))) sb ms/\Ext (· ∈ ms) σ w)
  (λs _=>a+m-s.toNat) ⟨a,rfl,O,by rw[qB O,Ζ];exact h,Ext.refl _ _⟩ ?_
 rintro s w ⟨x,rfl,H,b,K⟩;refine cA (m:=a+m) O O ?_;refine cI (λM=>?_) (λX=>?_)
 ·rw[qB O]at b;have N:take S a x x=true:=Kj.2 ⟨hd x H O,O⟩;refine Eu b x O (λk q D Z=>?_) (λj=>by rw[N]at j;cases j);have F:=ZQ b.jG (ZL.1 D).1;have Y:=b.fits F;have hl:=b.len;obtain⟨mm,J⟩:=b.get Y;have L:=Qe.1 Z;refine aG (b.rB λcap=>b.rM J ?_);refine b.se J D rfl λh1 W G=>?_;refine nq O (cA (m:=q*2^k+2^k) O O (cA (m:=x-q*2^k) O O ?_));refine CU G O (λy z C=>?_) λh2 e2 e=>?_
  ·have:y/2^k=q:=Qe.2 O;simp[del,this]
  ·have r:=(K.trans W).trans e2;rw[show q*2^k+(x-q*2^k)=x by omega]at e;have g:∀y,q*2^k<=y/\y<q*2^k+2^k->S y=true/\¬(a<=y/\y<x):=λy d=>Kj.1 (KT D (Qe.2 d));refine cA (m:=a+m) O O (cI (λP=>?_) λV=>?_)
   ·refine cA (m:=q*2^k+2^k-(a+m)) O O ?_;refine CU e O (λy z C=>?_) λh3 Q u=>?_
    ·have:y/2^k=q:=Qe.2 O;have B:¬y<x:=by omega
     simp[dI,del,this,B]
    ·refine⟨⟨_,rfl,O,?_,r.trans Q⟩,O⟩;rw[Nat.min_eq_right O];have:dI (dI (del (take S a x) k q) (q*2^k) x) (a+m) (a+m+(q*2^k+2^k-(a+m)))=take S a (a+m):=by
      refine tG λy=>?_;have d:=g y;simp only[Ki,VJ,Kj,Ne,Qe];generalize q*2^k=A at *;generalize 2^k=E at *;cases j:S y
      ·rw[j]at d;simp only[zb,false_and,false_or,iff_false,imp_false]at d ⊢;omega
      ·rw[j]at d;simp only[td]at d ⊢;omega
     rw[this]at u;exact u
   ·refine⟨⟨_,rfl,O,?_,r⟩,O⟩;rw[qB O];have:dI (del (take S a x) k q) (q*2^k) x=take S a (q*2^k+2^k):=by
     refine tG λy=>?_;have d:=g y;simp only[Ki,VJ,Kj,Ne,Qe];generalize q*2^k=A at *;generalize 2^k=E at *;cases j:S y
     ·rw[j]at d;simp only[zb,false_and,false_or,iff_false,imp_false]at d ⊢;omega
     ·rw[j]at d;simp only[td]at d ⊢;omega
    rw[this]at e;exact e
 ·rw[Nat.min_eq_right O]at b;exact hR w K b
def qv (S:Nat->Bool)(a m:Nat):Bool:=(List.range m).all λi=>!S (a+i)
def iB (S:Nat->Bool)(a m:Nat):Bool:=(List.range m).all λi=>S (a+i)
theorem Vm {S:Nat->Bool}{a m:Nat}:qv S a m=true↔∀x,a<=x->x<a+m->S x=false:=by
 simp only[qv,kM,zU,nj];exact⟨λh x b e=>by have:=h (x-a) O;rwa [show a+(x-a)=x by omega]at this,λh i d=>h _ O O⟩
theorem V8 {S:Nat->Bool}{a m:Nat}:iB S a m=true↔∀x,a<=x->x<a+m->S x=true:=by
 simp only[iB,kM,zU];exact⟨λh x b e=>by have:=h (x-a) O;rwa [show a+(x-a)=x by omega]at this,λh i d=>h _ O O⟩
theorem Sr {S:Nat->Bool}{a m x:Nat}(h1:a<=x)(h2:x<a+m)(h:S x=true):qv S a m=false:=by
 cases e:qv S a m
 ·rfl
 ·rw[Vm.1 e x h1 h2]at h;cases h
theorem Ox {S:Nat->Bool}{a m x:Nat}(h1:a<=x)(h2:x<a+m)(h:S x=false):iB S a m=false:=by
 cases e:iB S a m
 ·rfl
 ·rw[V8.1 e x h1 h2]at h;cases h
def yi (n:Nat)(S:Nat->Bool)(a m:Int):Int:=if Zf n a m then(if qv S a.toNat m.toNat then 0 else 9)else 1
def QO (n:Nat)(S:Nat->Bool)(a m:Int):Nat->Bool:=if Zf n a m&&qv S a.toNat m.toNat then dI S a.toNat (a.toNat+m.toNat)else S
def qV (n:Nat)(S:Nat->Bool)(a m:Int):Int:=if Zf n a m then(if iB S a.toNat m.toNat then 0 else 4)else 1
def j6 (n:Nat)(S:Nat->Bool)(a m:Int):Nat->Bool:=if Zf n a m&&iB S a.toNat m.toNat then take S a.toNat (a.toNat+m.toNat)else S
theorem FR {n:Nat}{a m:Int}(h:Zf n a m=true):∃x y:Nat,a=(x:Int)/\m=(y:Int)/\1<=y/\x+y<=n:=by
 simp only[Zf,zF,zS]at h;exact⟨a.toNat,m.toNat,O,O,O,O⟩
theorem qO (h:BH σ p n S sb ms)(a m:Int){R:aN}
 (hR:∀σ',Ext (· ∈ ms) σ σ'->BH σ' p n (QO n S a m) sb ms->R (yi n S a m) σ'):Yp.c (aW p) a m σ R:=by
 refine Yp.o ?_;unfold Yp.v;have C:=h.n2;refine Fs h a m (λb=>cG rfl ?_) (λb=>cK rfl ?_)
 ·obtain⟨x,y,rfl,rfl,H,s⟩:=FR b;refine ZU (a:=bN) (λt w=>∃z:Nat,t=(z:Int)/\x<=z/\w=σ/\∀u,x<=u->u<z->S u=false) (λt _=>x+y-t.toNat) ⟨x,rfl,O,rfl,λu _ _=>O⟩ ?_;rintro t w ⟨z,rfl,E,rfl,g⟩;refine cA (m:=x+y) O O ?_;refine cI (λB=>LB h _ ?_) (λG=>?_)
  ·have e:mP S (z:Int)=S z:=by simp[mP]
   rw[e];cases hs:S z
   ·refine cG rfl (cA (m:=z+1) O O ⟨⟨z+1,rfl,O,rfl,λu r D=>?_⟩,O⟩);by_cases e:u=z
    ·rw[e];exact hs
    ·exact g u r O
   ·refine cK rfl ?_;have j:=Sr (m:=y) E O hs;have:=hR w (Ext.refl _ _);simp only[yi,QO,b,dC,j,sH,zT,zb,zw]at this;exact this h
  ·have d:∀u,x<=u->u<x+y->S u=false:=λu r D=>g u r O;have j:=Vm.2 d;refine CU h s d λr F A=>?_;have:=hR r F;simp only[yi,QO,b,dC,j,sN,zT]at this;exact this A
 ·have:=hR σ (Ext.refl _ _);simp only[yi,QO,b,uD,zb,zw]at this;exact this h
theorem nm (h:BH σ p n S sb ms)(a m:Int){R:aN}
 (hR:∀σ',Ext (· ∈ ms) σ σ'->BH σ' p n (j6 n S a m) sb ms->R (qV n S a m) σ'):Xy.c (aW p) a m σ R:=by
 refine Xy.o ?_;unfold Xy.v;have C:=h.n2;refine Fs h a m (λb=>cG rfl ?_) (λb=>cK rfl ?_)
 ·obtain⟨x,y,rfl,rfl,H,s⟩:=FR b;refine ZU (a:=bN) (λt w=>∃z:Nat,t=(z:Int)/\x<=z/\w=σ/\∀u,x<=u->u<z->S u=true) (λt _=>x+y-t.toNat) ⟨x,rfl,O,rfl,λu _ _=>O⟩ ?_;rintro t w ⟨z,rfl,E,rfl,g⟩;refine cA (m:=x+y) O O ?_;refine cI (λB=>LB h _ ?_) (λG=>?_)
  ·have e:mP S (z:Int)=S z:=by simp[mP]
   rw[e];cases hs:S z
   ·refine cK rfl ?_;have j:=Ox (m:=y) E O hs;have:=hR w (Ext.refl _ _);simp only[qV,j6,b,dC,j,sH,zT,zb,zw]at this;exact this h
   ·refine cG rfl (cA (m:=z+1) O O ⟨⟨z+1,rfl,O,rfl,λu r D=>?_⟩,O⟩);by_cases e:u=z
    ·rw[e];exact hs
    ·exact g u r O
  ·have d:∀u,x<=u->u<x+y->S u=true:=λu r D=>g u r O;have j:=V8.2 d;refine J7 h s d λr F A=>?_;have:=hR r F;simp only[qV,j6,b,dC,j,sN,zT]at this;exact this A
 ·have:=hR σ (Ext.refl _ _);simp only[qV,j6,b,uD,zb,zw]at this;exact this h
theorem Mu {n:Nat}{S:Nat->Bool}(hb:Bounded S n)(K:Nat):lg n S K<=n:=by
 rw[Gr hb];exact zI vj aA
theorem rF (h:BH σ p n S sb ms){R:aN}(hR:R ((iR n S:Nat):Int) σ):Zt.c (aW p) σ R:=by
 refine Zt.o ?_;unfold Zt.v;have r:=h.n2;have u:=h.len;refine yl h (cG rfl (aG (h.rB λcap=>?_)));refine Kf (a:=bN) (bb:=bN) (λc t g=>∃k:Nat,c=((lg n S k:Nat):Int)/\t=(k:Int)/\k<=ms.length/\g=σ) (λ_ t _=>ms.length-t.toNat) ⟨0,rfl,rfl,O,rfl⟩ ?_;rintro c t g ⟨k,rfl,rfl,w,rfl⟩;have j:=Mu h.jG (k+1);have s:lg n S (k+1)=lg n S k+many n S k*2^k:=rfl;refine cI (λb=>?_) (λd=>?_)
 ·simp only at b;obtain⟨m,e⟩:=h.get (k:=k) O;refine h.rM e (h.kU e (nn O (AF O O ?_)));refine cA (m:=lg n S (k+1)) O O (cA (m:=k+1) O O ⟨⟨k+1,rfl,rfl,O,rfl⟩,O⟩)
 ·simp only at d;have:k=ms.length:=by omega
  subst this;rw[MI h.jG h.hi];exact hR
end Go.Bu
namespace Go.Ar
open Go.Bu
def sY (n:Nat)(h:Int):Bool:=decide (0<=h)&&decide (h<((n/16:Nat):Int))
def k5 (st:List Nat)(h:Int):Int:=if sY st.length h then(if st.getD (16*h.toNat) 0=0 then 0 else 5)else 1
def jv (st:List Nat)(h:Int):List Nat:=if k5 st h=0 then fW st (16*h.toNat) (16*h.toNat+16) 3 else st
def vG (st:List Nat)(h:Nat):Bool:=st.getD (16*h) 0 != 0&&gA st (16*h) (16*h+16) 1==0
def lN (st:List Nat)(h:Int):Int:=if sY st.length h then(if vG st h.toNat then 0 else 5)else 1
def jN (st:List Nat)(h:Int):List Nat:=if lN st h=0 then fW st (16*h.toNat) (16*h.toNat+16) 0 else st
def vJ (st:List Nat)(a m:Nat)(fr:List Nat):Bool:=((st.drop a).take m).all fr.contains
def GV (st:List Nat)(a m:Int)(fr:List Nat):Int:=if Zf st.length a m then(if vJ st a.toNat m.toNat fr then 0 else 5)else 1
def VS (st:List Nat)(a m:Int)(v:Nat)(fr:List Nat):List Nat:=if GV st a m fr=0 then fW st a.toNat (a.toNat+m.toNat) v else st
def KP (st:List Nat)(h:Nat):Nat:=if gA st (16*h) (16*h+16) 1=0 then 0 else if 0<gA st (16*h) (16*h+16) 3 then 1 else 2
def Kg (st:List Nat)(k:Nat):List Nat:=(List.range (st.length/16)).filter λh=>st.getD (16*h) 0 != 0&&KP st h==k
def used (st:List Nat)(h:Nat):Nat:=gA st (16*h) (16*h+16) 1
def yx (st:List Nat)(g h:Nat):Bool:=
 decide (KP st g<KP st h)||(KP st g==KP st h&&(decide (used st g<used st h)||(used st g==used st h&&decide (h<g))))
def mY (st:List Nat)(l:List Nat)(h:Nat):List Nat:=l.takeWhile (λg=>yx st g h)++h::l.dropWhile (λg=>yx st g h)
def eM (st:List Nat):List Nat:=((List.range (st.length/16)).filter λh=>0<gA st (16*h) (16*h+16) 2).foldl (mY st) []
def gp (st:List Nat)(p m:Nat):Nat:=(((st.drop p).take m).takeWhile (· == 2)).length
def QX (st:List Nat)(e:Nat):Nat->Nat->List (Nat×Nat)
 | 0,_=>[]
 | f+1,p=>if e<=p then[]else if gp st p (e-p)=0 then QX st e f (p+1)else(p,gp st p (e-p))::QX st e f (p+gp st p (e-p)+1)
def KM (st:List Nat)(h:Nat):List (Nat×Nat):=QX st (16*h+16) 17 (16*h)
def gP (want:Int):Nat->List (Nat×Nat)->List (Nat×Nat)
 | _,[]=>[]
 | p,r::rs=>if want<=(p:Int)then[]else r::gP want (p+r.2) rs
def HN (st:List Nat)(want:Int):List (Nat×Nat):=gP want 0 ((eM st).flatMap (KM st))
structure Sp where
 st:List Nat
 wd:Nat->Int
 pk:Nat
def Sp.set (s:Sp)(a m v:Nat):Sp:={s with st:=fW s.st a (a+m) v,wd:=λw=>if a*32<=w/\w<(a+m)*32 then 0 else s.wd w}
def Aa (st:List Nat)(a m v:Nat):Bool:=((st.drop a).take m).contains v
def fD (s:Sp)(a m:Int):Int:=if Zf s.st.length a m then(if((s.st.drop a.toNat).take m.toNat).any (· != 0)then 5 else 0)else 1
def gD (s:Sp)(a m:Int):Sp:=if fD s a m=0 then s.set a.toNat m.toNat 1 else s
def fI (s:Sp)(a m:Int):Int:=if Zf s.st.length a m then(if Aa s.st a.toNat m.toNat 0 then 7 else 0)else 1
def dX (s:Sp)(a m:Int)(v:Nat):Sp:=if fI s a m=0 then s.set a.toNat m.toNat v else s
def j5 (s:Sp)(x:Int):Int:=if x<0\/x%8≠0 then 7 else if s.st.getD (x.toNat/256) 0=0 then 7 else 0
def nT (s:Sp)(w:Nat)(v:Int):Sp:=
 {st:=s.st.set (w/32) 2,wd:=λu=>if u=w then v else s.wd u,pk:=if s.st.getD (w/32) 0=2 then s.pk else max s.pk ((s.st.set (w/32) 2).count 2)}
def US (s:Sp)(x v:Int):Sp:=if j5 s x=0 then nT s (x.toNat/8) v else s
end Go.Ar
namespace Go.Ar
structure Li where
 os:List Int
 lim:Nat
 low:Nat
 deriving DecidableEq
def iC:Li:=⟨[],1,0⟩
structure fQ (l:Li):Prop where
 low:l.low<=l.os.length
 many:l.os.length<=256
 lim:l.lim<=128
 oo:1<=l.lim
def gT (m:Nat)(l:Li):List Int×Li:=(l.os.take m,{l with os:=l.os.drop m,low:=min l.low (l.os.length-m)})
def m9 (c:bW)(l:Li):Li:=if l.lim<c.batch then{l with lim:=l.lim+1}else l
def Ka (c:bW)(l:Li):Option Int×Li:=match l.os.getLast? with
 | none=>(none,if l.lim<c.batch then{l with lim:=l.lim+1}else{l with lim:=min (l.lim+c.batch) 128})
 | some x=>(some x,{l with os:=l.os.dropLast,low:=min l.low (l.os.length-1)})
def qb (c:bW)(l:Li):Nat:=min l.lim c.batch
def eL (xs:List Int)(l:Li):Li:=if l.os.length+xs.length>256 then l else{l with os:=l.os++xs}
def dP (c:bW)(x:Int)(l:Li):List Int×Li:=
 if l.os.length+1>256 then([],l)
 else if l.os.length+1<=l.lim then([],eL [x] l)
 else gT (min c.batch (l.os.length+1)) (m9 c (eL [x] l))
def KH (c:bW)(l:Li):List Int×Li:=
 ((gT ((l.low+1)/2) l).1,{os:=(gT ((l.low+1)/2) l).2.os,lim:=if l.lim>c.batch then max (l.lim-c.batch) c.batch else l.lim,low:=(gT ((l.low+1)/2) l).2.os.length})
def ZX (_:bW)(l:Li):List Int×Li:=gT l.os.length l
abbrev Bt:=Nat×List Int
def Kb (f:bW->Li->List Int×Li)(tb:List bW)(ls:List Li):List Bt:=(List.range tb.length).filterMap λk=>match tb[k]?,ls[k]? with
 | some c,some l=>if(f c l).1=[]then none else some (k,(f c l).1)
 | _,_=>none
def Q6 (f:bW->Li->List Int×Li)(tb:List bW)(ls:List Li):List Li:=List.zipWith (λc l=>(f c l).2) tb ls
def Qt (tb:List bW)(ls:List Li):Nat:=((tb.zip ls).map λx=>x.1.size*x.2.os.length).sum
theorem fQ.nil:fQ iC:=⟨zD _,by decide,by decide,by decide⟩
theorem zx {m:Nat}{l:Li}(h:fQ l):fQ (gT m l).2:=by
 have a:=h.low;have b:=h.many;refine⟨?_,?_,h.lim,h.oo⟩
 ·simp only[gT,zr];omega
 ·simp only[gT,zr];omega
theorem Ik {c:bW}{l:Li}(hc:c.ok)(h:fQ l):fQ (Ka c l).2:=by
 have a:=h.low;have b:=h.many;have e:=h.lim;have d:=h.oo;unfold bW.ok at hc;unfold Ka;split
 ·split
  ·exact⟨a,b,by simp only;omega,by simp only;omega⟩
  ·exact⟨a,b,by simp only;omega,by simp only;omega⟩
 ·exact⟨by simp only[Dm];omega,by simp only[Dm];omega,e,d⟩
theorem x8 {xs:List Int}{l:Li}(h:fQ l):fQ (eL xs l):=by
 have a:=h.low;have b:=h.many;unfold eL;split
 ·exact h
 ·exact⟨by simp only[zK];omega,by simp only[zK];omega,h.lim,h.oo⟩
theorem Jj {c:bW}{l:Li}(hc:c.ok)(h:fQ l):fQ (m9 c l):=by
 have a:=h.lim;unfold bW.ok at hc;unfold m9;split
 ·exact⟨h.low,h.many,by simp only;omega,by simp only;omega⟩
 ·exact h
theorem Se {c:bW}{x:Int}{l:Li}(hc:c.ok)(h:fQ l):fQ (dP c x l).2:=by
 unfold dP;split
 ·exact h
 ·split
  ·exact x8 h
  ·exact zx (Jj hc (x8 h))
theorem Jw {c:bW}{l:Li}(hc:c.ok)(h:fQ l):fQ (KH c l).2:=by
 have a:=(zx (m:=(l.low+1)/2) h).many;have d:=h.lim;have b:=h.oo;unfold bW.ok at hc;refine⟨zD _,a,?_,?_⟩<;>simp only[KH]<;>split<;>omega
theorem PD {c:bW}{l:Li}(h:fQ l):fQ (ZX c l).2:=zx h
theorem RD (c:bW)(hc:c.ok):KH c iC=([],iC):=by
 unfold bW.ok at hc;simp[KH,iC,gT];omega
theorem ε (c:bW):ZX c iC=([],iC):=by simp[ZX,iC,gT]
def fP.rem (t:fP):fP:={low:=min t.low (t.bs.length-1),bs:=t.bs.dropLast}
def fP.tick (t:fP):fP:={low:=(t.bs.drop ((t.low+1)/2)).length,bs:=t.bs.drop ((t.low+1)/2)}
def fP.out (t:fP):List (List Int):=t.bs.take ((t.low+1)/2)
end Go.Ar
namespace Go.Proofs
open Go.Vc
set_option maxRecDepth 100000
def Zr.h:Hn:=.q .o1 (.q (.q (.cV (.seq [.op,.op,.op,.op,.dD false 2 [.op,.op],.op,.dD false 2 [.op,.op]])) .aK) (.q .o9 (.q (.q (.cV (.seq [.op,.op,.op,.dD false 8 (RI.ops 8)])) .aK) (.q (.o 13) .l))))
def Zr.v (a:R2)(b:Int)(c:Hp)(d:aN):Prop:=XN.c a c λe f=>bY (λg h=>bY (λi j=>If i (d 0 j) (Nz 8<|bL (b.tdiv 8) λk=>Nz 8<|bL (k.tdiv 8) λl=>bS a λm=>oJ (m.add 1) 16 l 1 λn=>fZ n j λo=>bY (λp q=>If p (d 0 q) (Nz 8<|bL (b.tdiv 8) λr=>Nz 8 <| bS o λs=>oJ s 8 (r.tmod 8) 1 λt=>fZ t q λu=>Nz 8 <| bS u λv=>oJ v 8 (b.tmod 8) 1 λw=>bM w q λx=>d x q)) λy=>If o.isNone (y true j) (Nz 8<|bL (b.tdiv 8) λz=>Nz 8 <| bS o λaa=>oJ aa 8 (z.tmod 8) 1 λab=>fZ ab j λac=>y ac.isNone j))) λad=>If g (ad true h) (ad (decide (b≥1024)) h)) λae=>If (!e) (ae true f) (ae (decide (b<0)) f)
theorem Zr.o {a b c d}(e:Zr.v a b c d):Zr.c a b c d:=Wa Tryz.func114 (x:=Zr.h) (R0 e)
def XN.h:Hn:=.q .o1 (.q (.cV (.seq [.op,.op,.op,.dD true 4 (RI.ops 4),.op])) .l)
def XN.v (a:R2)(b:Hp)(c:aO):Prop:=bY (λd e=>c d e) λf=>If (!a.isNone) (bG a 0 b λh=>f h b) (f false b)
theorem XN.o {a b c}(d:XN.v a b c):XN.c a b c:=Wa Tryz.func144 (x:=XN.h) (R0 d)
def Qg.h:Hn:=.q .o1 (.q .o3 .l)
def Qg.v (a:Hp)(b:Option Addr->Hp->Prop):Prop:=aV #[.bool true,.pointer none,.pointer none,.pointer none,.pointer none,.pointer none,.pointer none,.pointer none,.pointer none,.pointer none,.pointer none,.pointer none,.pointer none,.pointer none,.pointer none,.pointer none,.pointer none] 223 a λc d=>b (some c) d
theorem Qg.o {a b}(c:Qg.v a b):Qg.c a b:=Wa Tryz.func150 (x:=Qg.h) (R0 c)
def YT.h:Hn:=.q .o1 (.q (.k (.q .o4 (.c .aM (.q (.cV (.seq [.op,.op,.op,.dD false 2 [.op,.op],.op,.dD false 2 [.op,.op],.op,.dD false 4 (RI.ops 4),.op])) .aK)))) (.q (.q .o2 (.k (.loop [(9,.I)] (.q (.q .o5 (.c .l .l)) (.q (.k .o4) .o3))))) .aM))
def YT.v (a:R2)(b c d:Int)(e:Hp)(f:aN):Prop:=XN.c a e λg h=>If (!g) (f 5 h) (bY (λi j=>bY (λk l=>bY (λm n=>If m (f 1 n) (W6 [bN] (λo=>o b n) λp (q:Int) r=>bL (b+c) λs=>If (q<s) (Zk.c a q d r λt=>bL (q+1) λu=>p u t) (f 0 r))) λv=>If k (v true l) (bL (1024-b) λw=>v (decide (c>w)) l)) λx=>If i (x true j) (x (decide (b>1024)) j)) λy=>If (b<0) (y true h) (y (decide (c<1)) h))
theorem YT.o {a b c d e f}(g:YT.v a b c d e f):YT.c a b c d e f:=Wa Tryz.func152 (x:=YT.h) (R0 g)
def Zk.h:Hn:=.q .o9 (.q .o8 (.q .o7 (.jI [] (.q .o5 (.c .o7 .l)) (.q .o5 (.c .o8 .l)))))
def Zk.v (a:R2)(b c:Int)(d:Hp)(e:aP):Prop:=Nz 8<|bL (b.tdiv 8) λf=>Nz 8<|bL (f.tdiv 8) λg=>bS a λh=>oJ (h.add 1) 16 g 1 λi=>Ww.c (some i) d λj k=>Nz 8<|bL (b.tdiv 8) λl=>Nz 8 <| bS j λm=>oJ m 8 (l.tmod 8) 1 λn=>Wy.c (some n) k λo p=>Nz 8 <| bS o λq=>oJ q 8 (b.tmod 8) 1 λr=>dL r (.I c) p λs=>Jn [] (λt=>bS j λu=>aY u 0 t λv=>aY u 1 t λw=>aY u 2 t λx=>aY u 3 t λy=>aY u 4 t λz=>aY u 5 t λaa=>aY u 6 t λab=>aY u 7 t λac=>If (v.isNone&&(w.isNone&&(x.isNone&&(y.isNone&&(z.isNone&&(aa.isNone&&(ab.isNone&&(ac.isNone&&true)))))))) (Nz 8<|bL (b.tdiv 8) λad=>Nz 8<|bL (ad.tdiv 8) λae=>bS a λaf=>oJ (af.add 1) 16 ae 1 λag=>dL ag (.pointer none) t λah=>e ah) (e t)) λai=>bS o λaj=>aQ aj 0 s λak=>aQ aj 1 s λal=>aQ aj 2 s λam=>aQ aj 3 s λan=>aQ aj 4 s λao=>aQ aj 5 s λap=>aQ aj 6 s λaq=>aQ aj 7 s λar=>If ((ak==0)&&((al==0)&&((am==0)&&((an==0)&&((ao==0)&&((ap==0)&&((aq==0)&&((ar==0)&&true)))))))) (Nz 8<|bL (b.tdiv 8) λau=>Nz 8 <| bS j λav=>oJ av 8 (au.tmod 8) 1 λaw=>dL aw (.pointer none) s λax=>ai ax) (ai s)
theorem Zk.o {a b c d e}(f:Zk.v a b c d e):Zk.c a b c d e:=Wa Tryz.func204 (x:=Zk.h) (R0 f)
def XY.h:Hn:=.q .o1 (.q .o5 .l)
def XY.v (a:R2)(b c:Int)(d:Hp)(e:aN):Prop:=YT.c a b c 0 d λf g=>e f g
theorem XY.o {a b c d e}(f:XY.v a b c d e):XY.c a b c d e:=Wa Tryz.func224 (x:=XY.h) (R0 f)
def Ww.h:Hn:=.q .o1 (.jI [] (.q .o4 (.c .o4 .l)) (.q .o4 .l))
def Ww.v (a:R2)(b:Hp)(c:Option Addr->Hp->Prop):Prop:=Jn [] (λd=>bS a λe=>fZ e d λf=>c f d) λg=>bS a λh=>fZ h b λi=>If i.isNone (aV #[.pointer none,.pointer none,.pointer none,.pointer none,.pointer none,.pointer none,.pointer none,.pointer none] 329 b λj k=>bS a λl=>dL l (.pointer (some j)) k λm=>g m) (g b)
theorem Ww.o {a b c}(d:Ww.v a b c):Ww.c a b c:=Wa Tryz.func247 (x:=Ww.h) (R0 d)
def Wy.h:Hn:=.q .o1 (.jI [] (.q .o4 (.c .o4 .l)) (.q .o4 .l))
def Wy.v (a:R2)(b:Hp)(c:Option Addr->Hp->Prop):Prop:=Jn [] (λd=>bS a λe=>fZ e d λf=>c f d) λg=>bS a λh=>fZ h b λi=>If i.isNone (aV #[.I 0,.I 0,.I 0,.I 0,.I 0,.I 0,.I 0,.I 0] 333 b λj k=>bS a λl=>dL l (.pointer (some j)) k λm=>g m) (g b)
theorem Wy.o {a b c}(d:Wy.v a b c):Wy.c a b c:=Wa Tryz.func248 (x:=Wy.h) (R0 d)
def Yq.h:Hn:=.q .o1 (.q (.q (.cV (.seq [.op,.op,.op,.dD true 6 [.op,.op,.op,.dD false 2 [.op,.op]]])) .aK) (.q .o6 .l))
def Yq.v (a:R2)(b c d:Int)(e:Hp)(f:aN):Prop:=XN.c a e λg h=>bY (λi j=>If i (f 1 j) (YT.c a b c d j λk l=>f k l)) λm=>If g (bY (λn o=>m n o) λp=>If (d<1) (p true h) (p (decide (d>1073741824)) h)) (m false h)
theorem Yq.o {a b c d e f}(g:Yq.v a b c d e f):Yq.c a b c d e f:=Wa Tryz.func255 (x:=Yq.h) (R0 g)
end Go.Proofs
namespace Go.Ar
open Go Go.Vc Go.Proofs
open Go.Bu (Zf)
variable {σ:Hp}{F:Rg}{p:Nat}{M Lf:Nat->Option Nat}{ow:Nat->Nat}
def fO {α:Type}(f:Nat->α)(k:Nat)(v:α):Nat->α:=λi=>if i=k then v else f i
theorem ZN {α:Type}(f:Nat->α)(k:Nat)(v:α):fO f k v k=v:=by simp[fO]
theorem Qq {α:Type}(f:Nat->α){k i:Nat}(v:α)(h:i≠k):fO f k v i=f i:=by simp[fO,h]
theorem Kh {α:Type}(f:Nat->α)(n k:Nat)(v:α):((List.range n).map f).set k v=(List.range n).map (fO f k v):=by
 apply zy;intro i;by_cases hik:i=k
 ·subst hik;rcases ma i n with h|h
  ·rw[zM (by simpa using h)];simp[oc h,fO]
  ·rw[zZ (by simpa using h),zZ (by simpa using h)]
 ·rw[zj (Ne.symm hik)];simp only[ze];rcases ma i n with h|h
  ·simp[oc h,fO,hik]
  ·simp[zZ (show(List.range n).length<=i by simpa using h)]
theorem Km {α:Type}(f:Nat->α){n k:Nat}(h:k<n):((List.range n).map f)[k]?=some (f k):=by simp[oc h]
def ptr (o:Option Nat):Value:=.pointer (o.map λq=>⟨q,0,none⟩)
structure kH (σ:Hp) (F:Rg) (p:Nat) (M Lf:Nat->Option Nat) (ow:Nat->Nat):Prop where
 hd:bX σ p (.bool true::(List.range 16).map λi=>ptr (M i))
 jJ:∀i q,i<16->M i=some q->bX σ q ((List.range 8).map λj=>ptr (Lf (8*i+j)))
 lW:∀i,i<16->M i=none->∀j,j<8->Lf (8*i+j)=none
 leaf:∀k q,k<128->Lf k=some q->bX σ q ((List.range 8).map λj=>.int .i64 ((ow (8*k+j):Nat):Int))
 iX:∀k,k<128->Lf k=none->∀j,j<8->ow (8*k+j)=0
 fp:F p
 fm:∀i q,i<16->M i=some q->F q/\q≠p
 fl:∀k q,k<128->Lf k=some q->F q/\q≠p
 mm:∀i j q,i<16->j<16->M i=some q->M j=some q->i=j
 ll:∀i j q,i<128->j<128->Lf i=some q->Lf j=some q->i=j
 ml:∀i k q,i<16->k<128->M i=some q->Lf k≠some q
def jF (σ:Hp)(F:Rg)(p:Nat)(ow:Nat->Nat):Prop:=∃M Lf,kH σ F p M Lf ow
theorem kH.move {σ':Hp}{G:Rg}(h:kH σ F p M Lf ow)(hb:∀b,b<σ.size->F b->σ'[b]?=σ[b]?)(hg:∀b,b<σ.size->F b->G b):kH σ' G p M Lf ow:=by
 have j:∀{b:Nat} {cs:List Value},bX σ b cs->F b->bX σ' b cs:=by
  rintro b cs ⟨e,m⟩ r;exact⟨e,(hb b (bX.lt ⟨e,m⟩) r).trans m⟩
 exact⟨j h.hd h.fp,λi q d a=>j (h.jJ i q d a) (h.fm i q d a).1,h.lW,λk q g a=>j (h.leaf k q g a) (h.fl k q g a).1,h.iX,hg p h.hd.lt h.fp,
  λi q d a=>⟨hg q (h.jJ i q d a).lt (h.fm i q d a).1,(h.fm i q d a).2⟩,λk q g a=>⟨hg q (h.leaf k q g a).lt (h.fl k q g a).1,(h.fl k q g a).2⟩,h.mm,h.ll,h.ml⟩
theorem jF.loc:dQ λσ F=>jF σ F p ow:=λσ i F G ⟨M,Lf,h⟩ g e=>⟨M,Lf,h.move (λb a d=>(e b a d).2) λb a d=>(e b a d).1⟩
theorem jF.congr {ow':Nat->Nat}(h:jF σ F p ow)(he:∀x,x<1024->ow x=ow' x):jF σ F p ow':=by
 obtain⟨M,Lf,h⟩:=h;refine⟨M,Lf,h.hd,h.jJ,h.lW,λk q b d=>?_,λk b d j a=>?_,h.fp,h.fm,h.fl,h.mm,h.ll,h.ml⟩
 ·have:=h.leaf k q b d;have e:((List.range 8).map λj=>Value.int .i64 ((ow (8*k+j):Nat):Int))=(List.range 8).map λj=>Value.int .i64 ((ow' (8*k+j):Nat):Int):=by
   apply kD;intro j a;rw[zU]at a;rw[he _ O]
  rw[←e];exact this
 ·rw[←he _ O];exact h.iX k b d j a
theorem Co (h:jF σ F p ow){R:aO}(hR:R true σ):XN.c (aW p) σ R:=by
 refine XN.o ?_;unfold XN.v;obtain⟨M,Lf,h⟩:=h;exact bY.intro (cK rfl (aG (h.hd.rB rfl hR)))
theorem rz {a:Addr}{n i sz:Nat}{K:Addr->Prop}(hi:i<n)(hK:K (a.add (i*sz))):oJ a n (i:Int) sz K:=⟨O,O,by simpa using hK⟩
theorem kH.rM (h:kH σ F p M Lf ow){i:Nat}(hi:i<16){K:Option Addr->Prop}(hK:K ((M i).map λq=>⟨q,0,none⟩)):fZ ⟨p,1+i,none⟩ σ K:=by
 refine h.hd.vE ?_ hK;rw[Nat.add_comm,yJ,Km _ hi];rfl
theorem kH.rL (h:kH σ F p M Lf ow){i j q:Nat}(hi:i<16)(hq:M i=some q)(hj:j<8){K:Option Addr->Prop}(hK:K ((Lf (8*i+j)).map λq=>⟨q,0,none⟩)):fZ ⟨q,j,none⟩ σ K:=
 (h.jJ i q hi hq).vE (Km _ hj) hK
theorem kH.rN (h:kH σ F p M Lf ow){k j q:Nat}(hk:k<128)(hq:Lf k=some q)(hj:j<8){K:Int->Prop}(hK:K ((ow (8*k+j):Nat):Int)):fF .i64 ⟨q,j,none⟩ σ K:=
 (h.leaf k q hk hq).xv (Km _ hj) hK
def rh (ow:Nat->Nat)(x:Int):Nat:=if 0<=x/\x<1024 then ow x.toNat else 0
theorem RP (h:jF σ F p ow)(x:Int){R:aN}(hR:R ((rh ow x:Nat):Int) σ):Zr.c (aW p) x σ R:=by
 refine Zr.o ?_;unfold Zr.v;have m:=h;obtain⟨M,Lf,h⟩:=h;refine Co m (bY.intro (cG rfl (bY.intro (cI (λj=>cK rfl ?_) λj=>?_))))
 ·have:rh ow x=0:=by unfold rh;rw[zA O]
  rw[this]at hR;exact hR
 refine cI (λw=>?_) λs=>?_
 ·have:rh ow x=0:=by unfold rh;rw[zA O]
  rw[this]at hR;exact hR
 obtain⟨y,rfl⟩:=zi (show 0<=x by omega);have A:y<1024:=by omega
 have u:rh ow (y:Int)=ow y:=by unfold rh;rw[zB O];rfl
 rw[u]at hR;have b:((y:Int).tdiv 8)=((y/8:Nat):Int):=by rw[YN O];simp
 have z:(((y/8:Nat):Int).tdiv 8)=((y/8/8:Nat):Int):=by rw[YN O];simp
 have g:(((y/8:Nat):Int).tmod 8)=((y/8%8:Nat):Int):=by rw[Q8 O];simp
 have i:((y:Int).tmod 8)=((y%8:Nat):Int):=by rw[Q8 O];simp
 have d:8*(y/8/8)+y/8%8=y/8:=by omega
 have a:8*(y/8)+y%8=y:=by omega
 refine nz aB (cA b O (nz aB (cA z O (aG ?_))));refine rz O ?_;rw[add_lit,add_lit,zG,ox];refine h.rM O (bY.intro ?_);cases hM:M (y/8/8)with
 | none=>
  refine cK rfl (cK rfl ?_);have e:=h.lW _ O hM (y/8%8) O;rw[d]at e;have:=h.iX _ O e (y%8) O;rw[a]at this;rw[this]at hR;exact hR
 | some q=>
  refine cG rfl (nz aB (cA b O (nz aB (aG ?_))));rw[g];refine rz O ?_;rw[add_lit,zG,ox];refine h.rL O hM O ?_;rw[d];cases hL:Lf (y/8)with
  | none=>
   refine cK rfl ?_;have:=h.iX _ O hL (y%8) O;rw[a]at this;rw[this]at hR;exact hR
  | some r=>
   refine cG rfl (nz aB (cA b O (nz aB (aG ?_))));rw[g];refine rz O ?_;rw[add_lit,zG,ox];refine h.rL O hM O ?_;rw[d,hL];refine nz aB (aG ?_);rw[i];refine rz O ?_;rw[add_lit,zG,ox];refine h.rN O hL O ?_;rw[a];exact hR
theorem WnG {R:Option Addr->Hp->Prop}(hR:∀σ' p,bO σ σ'->σ.size<=p->jF σ' (λb=>σ.size<=b) p (λ_=>0)->R (some ⟨p,0,none⟩) σ'):Qg.c σ R:=by
 refine Qg.o ?_;unfold Qg.v;refine nw (cs:=[.bool true,.pointer none,.pointer none,.pointer none,.pointer none,.pointer none,.pointer none,.pointer none,.pointer none,.pointer none,.pointer none,.pointer none,.pointer none,.pointer none,.pointer none,.pointer none,.pointer none]) λv d e a=>?_;refine hR v _ e (zD _) ⟨λ_=>none,λ_=>none,a,?_,?_,?_,?_,zD _,?_,?_,?_,?_,?_⟩<;>intros<;>simp_all
theorem Pj (h:kH σ F p M Lf ow){i:Nat}(hi:i<16){R:Option Addr->Hp->Prop}
 (hR:∀σ' M' q,Ext F σ σ'->M' i=some q->kH σ' (Grow F σ) p M' Lf ow->R (some ⟨q,0,none⟩) σ'):Ww.c (some ⟨p,1+i,none⟩) σ R:=by
 refine Ww.o ?_;unfold Ww.v;refine Jn.intro (aG (h.rM hi ?_));cases hM:M i with
 | some q=>exact cG rfl (aG (h.rM hi (by rw[hM];exact hR σ M q (Ext.refl _ _) hM (h.move (λ_ _ _=>rfl) λ_ _ C=>.inl C))))
 | none=>
  refine cK rfl (nw (cs:=[.pointer none,.pointer none,.pointer none,.pointer none,.pointer none,.pointer none,.pointer none,.pointer none]) λE G z x=>aG ?_);have D:=h.hd.lt;refine(z.bZ h.hd id).s0 aE λy o2 u=>?_;have s:(Value.bool true::(List.range 16).map λi=>ptr (M i)).set (1+i) (.pointer (some ⟨σ.size,0,none⟩))=.bool true::(List.range 16).map λj=>ptr (fO M i (some σ.size) j):=by
   rw[Nat.add_comm,sG,Kh]
   congr 1
   apply kD;intro j _;simp only[fO];split<;>rfl
  rw[s]at u;have r:∀{b:Nat} {cs:List Value},bX σ b cs->b≠p->bX y b cs:=λA w=>Ws o2 (z.bZ A id) w;have B:kH y (Grow F σ) p (fO M i (some σ.size)) Lf ow:=by
   refine⟨u,λj q e a=>?_,λj e a=>?_,λk q d a=>r (h.leaf k q d a) (h.fl k q d a).2,h.iX,.inl h.fp,λj q e a=>?_,λk q d a=>⟨.inl (h.fl k q d a).1,(h.fl k q d a).2⟩,λj k q e d m g=>?_,h.ll,λj k q e d a=>?_⟩
   ·by_cases hji:j=i
    ·subst hji;rw[ZN]at a;cases a;have w:=h.lW j e hM;have:((List.range 8).map λk=>ptr (Lf (8*j+k)))=[.pointer none,.pointer none,.pointer none,.pointer none,.pointer none,.pointer none,.pointer none,.pointer none]:=by
      have:((List.range 8).map λk=>ptr (Lf (8*j+k)))=(List.range 8).map λ_=>Value.pointer none:=by
       apply kD;intro k d;rw[zU]at d;rw[w k d];rfl
      rw[this];rfl
     rw[this];exact Ws o2 x O
    ·rw[Qq _ _ hji]at a;exact r (h.jJ j q e a) (h.fm j q e a).2
   ·by_cases hji:j=i
    ·subst hji;rw[ZN]at a;cases a
    ·rw[Qq _ _ hji]at a;exact h.lW j e a
   ·by_cases hji:j=i
    ·subst hji;rw[ZN]at a;cases a;exact⟨.inr (zD _),O⟩
    ·rw[Qq _ _ hji]at a;exact⟨.inl (h.fm j q e a).1,(h.fm j q e a).2⟩
   ·by_cases hji:j=i
    ·by_cases hki:k=i
     ·omega
     ·subst hji;rw[ZN]at m;cases m;rw[Qq _ _ hki]at g;have:=(h.jJ k _ d g).lt;omega
    ·rw[Qq _ _ hji]at m;by_cases hki:k=i
     ·subst hki;rw[ZN]at g;cases g;have:=(h.jJ j _ e m).lt;omega
     ·rw[Qq _ _ hki]at g;exact h.mm j k q e d m g
   ·by_cases hji:j=i
    ·subst hji;rw[ZN]at a;cases a;intro hl;have:=(h.leaf k _ d hl).lt;omega
    ·rw[Qq _ _ hji]at a;exact h.ml j k q e d a
  refine aG (B.rM hi ?_);rw[ZN];exact hR y _ σ.size (z.to.trans (o2.ext.sub λb A=>A▸h.fp)) (ZN _ _ _) B
theorem Rm (h:kH σ F p M Lf ow){i j q:Nat}(hi:i<16)(hj:j<8)(hq:M i=some q){R:Option Addr->Hp->Prop}
 (hR:∀σ' L' r,Ext F σ σ'->L' (8*i+j)=some r->kH σ' (Grow F σ) p M L' ow->R (some ⟨r,0,none⟩) σ'):Wy.c (some ⟨q,j,none⟩) σ R:=by
 refine Wy.o ?_;unfold Wy.v;have V:8*i+j<128:=by omega
 refine Jn.intro (aG (h.rL hi hq hj ?_));cases hL:Lf (8*i+j)with
 | some r=>exact cG rfl (aG (h.rL hi hq hj (by rw[hL];exact hR σ Lf r (Ext.refl _ _) hL (h.move (λ_ _ _=>rfl) λ_ _ G=>.inl G))))
 | none=>
  refine cK rfl (nw (cs:=[.int .i64 0,.int .i64 0,.int .i64 0,.int .i64 0,.int .i64 0,.int .i64 0,.int .i64 0,.int .i64 0]) λW X L J=>aG ?_);have S:=h.jJ i q hi hq;have U:=S.lt;have G:=h.fm i q hi hq;refine(L.bZ S id).s0 aE λK o2 z=>?_;have y:∀{b:Nat} {cs:List Value},bX σ b cs->b≠q->bX K b cs:=λP H=>Ws o2 (L.bZ P id) H;have Q:kH K (Grow F σ) p M (fO Lf (8*i+j) (some σ.size)) ow:=by
   refine⟨y h.hd (Ne.symm G.2),λm x g d=>?_,λm g d C N=>?_,λk r a s=>?_,λk a s=>?_,.inl h.fp,λm x g d=>⟨.inl (h.fm m x g d).1,(h.fm m x g d).2⟩,λk r a s=>?_,h.mm,λk E r A B w u=>?_,λm k x g a d=>?_⟩
   ·by_cases hii:m=i
    ·subst hii;rw[hq]at d;cases d;rw[Kh]at z;have:((List.range 8).map (fO (λj=>ptr (Lf (8*m+j))) j (.pointer (some ⟨σ.size,0,none⟩))))=(List.range 8).map λk=>ptr (fO Lf (8*m+j) (some σ.size) (8*m+k)):=by
      apply kD;intro k _;simp only[fO];by_cases hkj:k=j
      ·subst hkj;simp[ptr]
      ·have:¬8*m+k=8*m+j:=by omega
       simp[hkj,this]
     rw[this]at z;exact z
    ·have D:x≠q:=λe=>by subst e;exact hii (h.mm m i x g hi d hq)
     have:=y (h.jJ m x g d) D;have e:((List.range 8).map λk=>ptr (fO Lf (8*i+j) (some σ.size) (8*m+k)))=(List.range 8).map λk=>ptr (Lf (8*m+k)):=by
      apply kD;intro k a;rw[zU]at a;rw[Qq _ _ O]
     rw[e];exact this
   ·have D:m≠i:=λe=>by subst e;rw[hq]at d;cases d
    rw[Qq _ _ O];exact h.lW m g d C N
   ·by_cases hkk:k=8*i+j
    ·subst hkk;rw[ZN]at s;cases s;have H:=h.iX _ V hL;have:((List.range 8).map λC=>Value.int .i64 ((ow (8*(8*i+j)+C):Nat):Int))=[.int .i64 0,.int .i64 0,.int .i64 0,.int .i64 0,.int .i64 0,.int .i64 0,.int .i64 0,.int .i64 0]:=by
      have:((List.range 8).map λC=>Value.int .i64 ((ow (8*(8*i+j)+C):Nat):Int))=(List.range 8).map λ_=>Value.int .i64 0:=by
       apply kD;intro k a;rw[zU]at a;rw[H k a];rfl
      rw[this];rfl
     rw[this];exact Ws o2 J O
    ·rw[Qq _ _ hkk]at s;exact y (h.leaf k r a s) λe=>by subst e;exact h.ml i k r hi a hq s
   ·by_cases hkk:k=8*i+j
    ·subst hkk;rw[ZN]at s;cases s
    ·rw[Qq _ _ hkk]at s;exact h.iX k a s
   ·by_cases hkk:k=8*i+j
    ·subst hkk;rw[ZN]at s;cases s;have:=h.hd.lt;exact⟨.inr (zD _),O⟩
    ·rw[Qq _ _ hkk]at s;exact⟨.inl (h.fl k r a s).1,(h.fl k r a s).2⟩
   ·by_cases e1':k=8*i+j
    ·by_cases e2':E=8*i+j
     ·omega
     ·subst e1';rw[ZN]at w;cases w;rw[Qq _ _ e2']at u;have:=(h.leaf E _ B u).lt;omega
    ·rw[Qq _ _ e1']at w;by_cases e2':E=8*i+j
     ·subst e2';rw[ZN]at u;cases u;have:=(h.leaf k _ A w).lt;omega
     ·rw[Qq _ _ e2']at u;exact h.ll k E r A B w u
   ·by_cases hkk:k=8*i+j
    ·subst hkk;rw[ZN];intro e;cases e;have:=(h.jJ m _ g d).lt;omega
    ·rw[Qq _ _ hkk];exact h.ml m k x g a d
  refine aG (Q.rL hi hq hj ?_);rw[ZN];exact hR K _ σ.size (L.to.trans (o2.ext.sub λb P=>P▸G.1)) (ZN _ _ _) Q
theorem WlZ (h:kH σ F p M Lf ow){k r j no:Nat}(hk:k<128)(hr:Lf k=some r)(hj:j<8){σ':Hp}(ho:QD σ σ' r)(hb:bX σ' r (((List.range 8).map λj=>Value.int .i64 ((ow (8*k+j):Nat):Int)).set j (.int .i64 (no:Int)))) :
 kH σ' F p M Lf (fO ow (8*k+j) no):=by
 refine⟨Ws ho h.hd (Ne.symm (h.fl k r hk hr).2),λi q x y=>Ws ho (h.jJ i q x y) λe=>by subst e;exact h.ml i k q x hk y hr,h.lW,λd u g b=>?_,λd g b w s=>?_,h.fp,h.fm,h.fl,h.mm,h.ll,h.ml⟩
 ·by_cases hkk:d=k
  ·subst hkk;rw[hr]at b;cases b;rw[Kh]at hb;have:((List.range 8).map (fO (λj=>Value.int .i64 ((ow (8*d+j):Nat):Int)) j (.int .i64 (no:Int))))=(List.range 8).map λw=>Value.int .i64 ((fO ow (8*d+j) no (8*d+w):Nat):Int):=by
    apply kD;intro a _;simp only[fO];by_cases haj:a=j
    ·subst haj;simp
    ·have:¬8*d+a=8*d+j:=by omega
     simp[haj,this]
   rw[this]at hb;exact hb
  ·have m:u≠r:=λe=>by subst e;exact hkk (h.ll d k u g hk b hr)
   have:=Ws ho (h.leaf d u g b) m;have e:((List.range 8).map λa=>Value.int .i64 ((fO ow (8*k+j) no (8*d+a):Nat):Int))=(List.range 8).map λa=>Value.int .i64 ((ow (8*d+a):Nat):Int):=by
    apply kD;intro a ha;rw[zU]at ha;rw[Qq _ _ O]
   rw[e];exact this
 ·have m:d≠k:=λe=>by subst e;rw[hr]at b;cases b
  rw[Qq _ _ O];exact h.iX d g b w s
theorem Mb (h:kH σ F p M Lf ow){i j q:Nat}(hi:i<16)(hj:j<8)(hq:M i=some q)(hz:∀a,a<8->ow (8*(8*i+j)+a)=0){σ':Hp}(ho:QD σ σ' q)(hb:bX σ' q (((List.range 8).map λj=>ptr (Lf (8*i+j))).set j (.pointer none))) :
 kH σ' F p M (fO Lf (8*i+j) none) ow:=by
 have E:=h.fm i q hi hq;refine⟨Ws ho h.hd (Ne.symm E.2),λd y g b=>?_,λd g b G B=>?_,λk r x m=>?_,λk x m=>?_,h.fp,h.fm,λk r x m=>?_,h.mm,λk D r z A s u=>?_,λd k y g w b=>?_⟩
 ·by_cases hii:d=i
  ·subst hii;rw[hq]at b;cases b;rw[Kh]at hb;have:((List.range 8).map (fO (λj=>ptr (Lf (8*d+j))) j (.pointer none)))=(List.range 8).map λk=>ptr (fO Lf (8*d+j) none (8*d+k)):=by
    apply kD;intro k _;simp only[fO];by_cases hkj:k=j
    ·subst hkj;simp[ptr]
    ·have:¬8*d+k=8*d+j:=by omega
     simp[hkj,this]
   rw[this]at hb;exact hb
  ·have C:y≠q:=λe=>by subst e;exact hii (h.mm d i y g hi b hq)
   have:=Ws ho (h.jJ d y g b) C;have e:((List.range 8).map λk=>ptr (fO Lf (8*i+j) none (8*d+k)))=(List.range 8).map λk=>ptr (Lf (8*d+k)):=by
    apply kD;intro k w;rw[zU]at w;rw[Qq _ _ O]
   rw[e];exact this
 ·simp only[fO];split
  ·rfl
  ·exact h.lW d g b G B
 ·by_cases hkk:k=8*i+j
  ·subst hkk;rw[ZN]at m;cases m
  ·rw[Qq _ _ hkk]at m;exact Ws ho (h.leaf k r x m) λe=>by subst e;exact h.ml i k r hi x hq m
 ·by_cases hkk:k=8*i+j
  ·subst hkk;exact hz
  ·rw[Qq _ _ hkk]at m;exact h.iX k x m
 ·by_cases hkk:k=8*i+j
  ·subst hkk;rw[ZN]at m;cases m
  ·rw[Qq _ _ hkk]at m;exact h.fl k r x m
 ·by_cases e1':k=8*i+j
  ·subst e1';rw[ZN]at s;cases s
  ·rw[Qq _ _ e1']at s;by_cases e2':D=8*i+j
   ·subst e2';rw[ZN]at u;cases u
   ·rw[Qq _ _ e2']at u;exact h.ll k D r z A s u
 ·by_cases hkk:k=8*i+j
  ·subst hkk;rw[ZN];intro e;cases e
  ·rw[Qq _ _ hkk];exact h.ml d k y g w b
theorem SP (h:kH σ F p M Lf ow){i:Nat}(hi:i<16)(hz:∀j,j<8->Lf (8*i+j)=none){σ':Hp}(ho:QD σ σ' p)(hb:bX σ' p ((Value.bool true::(List.range 16).map λi=>ptr (M i)).set (1+i) (.pointer none))) :
 kH σ' F p (fO M i none) Lf ow:=by
 have m:(Value.bool true::(List.range 16).map λi=>ptr (M i)).set (1+i) (.pointer none)=.bool true::(List.range 16).map λj=>ptr (fO M i none j):=by
  rw[Nat.add_comm,sG,Kh]
  congr 1
  apply kD;intro j _;simp only[fO];split<;>rfl
 rw[m]at hb;have e:∀{j q},fO M i none j=some q->M j=some q:=λ{j q} d=>by
  by_cases hji:j=i
  ·subst hji;rw[ZN]at d;cases d
  ·rwa [Qq _ _ hji]at d
 refine⟨hb,λj q g d=>Ws ho (h.jJ j q g (e d)) (h.fm j q g (e d)).2,λj g d=>?_,λk q r d=>Ws ho (h.leaf k q r d) (h.fl k q r d).2,h.iX,h.fp,λj q g d=>h.fm j q g (e d),h.fl,λa b q s hb w u=>h.mm a b q s hb (e w) (e u),h.ll,λa k q s r d=>h.ml a k q s r (e d)⟩;by_cases hji:j=i
 ·subst hji;exact hz
 ·rw[Qq _ _ hji]at d;exact h.lW j g d
theorem Mz (h:jF σ F p ow){x no:Nat}(hx:x<1024){R:aP}(hR:∀σ',Ext F σ σ'->jF σ' (Grow F σ) p (fO ow x no)->R σ'):Zk.c (aW p) (x:Int) (no:Int) σ R:=by
 refine Zk.o ?_;unfold Zk.v;obtain⟨M,Lf,h⟩:=h;have N:((x:Int).tdiv 8)=((x/8:Nat):Int):=by rw[YN O];simp
 have t2:(((x/8:Nat):Int).tdiv 8)=((x/8/8:Nat):Int):=by rw[YN O];simp
 have t3:(((x/8:Nat):Int).tmod 8)=((x/8%8:Nat):Int):=by rw[Q8 O];simp
 have t4:((x:Int).tmod 8)=((x%8:Nat):Int):=by rw[Q8 O];simp
 have hk:8*(x/8/8)+x/8%8=x/8:=by omega
 have hk2:8*(x/8)+x%8=x:=by omega
 refine nz aB (cA N O (nz aB (cA t2 O (aG ?_))));refine rz O ?_;rw[add_lit,add_lit,zG,ox];refine Pj h O λS M1 q e1 L h1=>?_;refine nz aB (cA N O (nz aB (aG ?_)));rw[t3];refine rz O ?_;rw[add_lit,zG,ox];refine Rm h1 O O L λv2 L2 r e2 E h2=>?_;rw[hk]at E;have V:Ext F σ v2:=e1.iM e2;refine nz aB (aG ?_);rw[t4];refine rz O ?_;rw[add_lit,zG,ox];have s:x/8<128:=by omega
 refine(h2.leaf _ r s E).s0 aE λv3 o3 b3=>?_;have z:=WlZ h2 s E O o3 b3;rw[hk2]at z;have a:∀b,Grow (Grow F σ) S b->Grow F σ b:=λb u=>by
  rcases u with h|h
  ·exact h
  ·exact .inr (zI e1.1 h)
 have A:Ext F σ v3:=V.fC o3.ext λb u=>by subst u;exact a _ (h2.fl _ _ s E).1
 have tail:∀v L4,Ext F σ v->kH v (Grow (Grow F σ) S) p M1 L4 (fO ow x no) →
  (bS (some ⟨q,0,none⟩) λe=>fZ (e.add 0) v λX=>fZ (e.add 1) v λB=>fZ (e.add 2) v λK=>fZ (e.add 3) v λD=>fZ (e.add 4) v λC=>fZ (e.add 5) v λJ=>fZ (e.add 6) v λH=>fZ (e.add 7) v λG=>
   If (X.isNone&&(B.isNone&&(K.isNone&&(D.isNone&&(C.isNone&&(J.isNone&&(H.isNone&&(G.isNone&&true)))))))) (Nz 8<|Ar .i64 ((x:Int).tdiv 8) λt47=>Nz 8<|Ar .i64 (t47.tdiv 8) λt48=>bS (some ⟨p,0,none⟩) λa49=>oJ (a49.add 1) 16 t48 1 λa51=>dL a51 (.pointer none) v λv4=>R v4) (R v)):=by
  intro v L4 ev h4;have m:=h4.jJ _ q O L;have g:∀j,j<8->((List.range 8).map λj=>ptr (L4 (8*(x/8/8)+j)))[0+j]?=some (.pointer ((L4 (8*(x/8/8)+j)).map λq=>⟨q,0,none⟩)):=λj y=>by rw[zG,Km _ y];rfl
  refine aG (m.rP (g 0 O) (m.rP (g 1 O) (m.rP (g 2 O) (m.rP (g 3 O) (m.rP (g 4 O) (m.rP (g 5 O) (m.rP (g 6 O) (m.rP (g 7 O) ?_))))))));have fin:∀w,Ext F σ w->jF w (Grow (Grow F σ) S) p (fO ow x no)->R w:=λw ew hw=>hR w ew (jF.loc.mono hw λb _ u=>a b u);refine cU (λi=>?_) λ_=>fin v ev ⟨_,_,h4⟩;have Y:∀j,j<8->L4 (8*(x/8/8)+j)=none:=by
   simp only[Option.isNone_map,sN,zF,Option.isNone_iff_eq_none]at i;intro j y;obtain⟨Q,W,P,a3,a4,a5,U,Z⟩:=i
   match j,y with
   | 0,_=>exact Q
   | 1,_=>exact W
   | 2,_=>exact P
   | 3,_=>exact a3
   | 4,_=>exact a4
   | 5,_=>exact a5
   | 6,_=>exact U
   | 7,_=>exact Z
  refine nz aB (cA N O (nz aB (cA t2 O (aG ?_))));refine rz O ?_;rw[add_lit,add_lit,zG,ox];refine h4.hd.s0 aE λv4 o4 b4=>fin v4 (ev.fC o4.ext λb u=>by subst u;exact a _ h4.fp) ⟨_,_,SP h4 O Y o4 b4⟩
 refine Jn.intro (aG ?_);have d:=z.leaf _ r s E;have g:∀j,j<8->((List.range 8).map λj=>Value.int .i64 ((fO ow x no (8*(x/8)+j):Nat):Int))[0+j]?=some (.int .i64 ((fO ow x no (8*(x/8)+j):Nat):Int)):=λj y=>by rw[zG,Km _ y]
 refine d.rI (g 0 O) (d.rI (g 1 O) (d.rI (g 2 O) (d.rI (g 3 O) (d.rI (g 4 O) (d.rI (g 5 O) (d.rI (g 6 O) (d.rI (g 7 O) ?_)))))));refine cU (λi=>?_) λ_=>tail v3 L2 A z;have Y:∀j,j<8->fO ow x no (8*(8*(x/8/8)+x/8%8)+j)=0:=by
  rw[hk];simp only[vd,sN,zF,zX]at i;intro j y;obtain⟨Q,W,P,a3,a4,a5,U,Z⟩:=i
  match j,y with
  | 0,_=>exact Q
  | 1,_=>exact W
  | 2,_=>exact P
  | 3,_=>exact a3
  | 4,_=>exact a4
  | 5,_=>exact a5
  | 6,_=>exact U
  | 7,_=>exact Z
 refine nz aB (cA N O (nz aB (aG ?_)));rw[t3];refine rz O ?_;rw[add_lit,zG,ox];have m:=z.jJ _ q O L;refine m.s0 aE λv5 o5 b5=>?_;exact tail v5 _ (A.fC o5.ext λb u=>by subst u;exact a _ (z.fm _ _ O L).1) (Mb z O O L Y o5 b5)
def j7 (ow:Nat->Nat)(a m no:Nat):Nat->Nat:=if Zf 1024 a m then λp=>if a<=p/\p<a+m then no else ow p else ow
def uO (a m:Int):Int:=if Zf 1024 a m then 0 else 1
theorem IZ (h:jF σ F p ow)(a m:Int)(ha : -1000000000000<=a)(ha2:a<=1000000000000)(no:Nat){R:aN}(h1:Zf 1024 a m=false->R 1 σ)
 (hR:∀x y:Nat,a=x->m=y->1<=y->x+y<=1024->∀σ',Ext F σ σ'->jF σ' (Grow F σ) p (j7 ow x y no)->R 0 σ'):YT.c (aW p) a m (no:Int) σ R:=by
 refine YT.o ?_;unfold YT.v;have d:¬(0<=a/\1<=m/\m<=1024-a)->R 1 σ:=λs=>h1 (by simp only[Zf,←vO];exact zh s);refine Co h (cG rfl (bY.intro (cI (λC=>bY.intro (cK rfl (bY.intro (cK rfl (cK rfl (d O)))))) λC=>?_)));refine bY.intro (cI (λE=>bY.intro (cK rfl (cK rfl (d O)))) λE=>?_);refine bY.intro (cI (λA=>cK rfl (d O)) λA=>ar O O (cI (λD=>d O) λD=>?_));obtain⟨x,rfl⟩:=zi (show 0<=a by omega);obtain⟨y,rfl⟩:=zi (show 0<=m by omega);have g:Zf 1024 (x:Int) (y:Int)=true:=by simp only[Zf,zF,zS];omega
 refine ZU (a:=bN) (λ(t:Int) v=>∃i:Nat,t=((x+i:Nat):Int)/\i<=y/\Ext F σ v/\jF v (Grow F σ) p (λz=>if x<=z/\z<x+i then no else ow z)) (λt _=>x+y-t.toNat) ⟨0,rfl,O,Ext.refl _ _,?_⟩ ?_
 ·have:(λz=>if x<=z/\z<x+0 then no else ow z)=ow:=by
   funext z;rw[zA O]
  rw[this];exact jF.loc.mono h λb _ j=>.inl j
 rintro t v ⟨i,rfl,H,e,r⟩;refine cA (m:=x+y) O O (cI (λu=>?_) λG=>?_)
 ·refine Mz r O λK w B=>cA (m:=x+(i+1)) O O ⟨⟨i+1,rfl,O,e.iM w,?_⟩,O⟩;refine jF.congr (jF.loc.mono B λb _ j=>?_) λz J=>?_
  ·rcases j with h|h
   ·exact h
   ·exact .inr (zI e.1 h)
  ·simp only[fO];by_cases hzi:z=x+i
   ·subst hzi;rw[zB rfl,zB O]
   ·rw[zA hzi];by_cases hin:x<=z/\z<x+i
    ·rw[zB hin,zB O]
    ·rw[zA hin,zA O]
 ·have:i=y:=by omega
  subst this;refine hR x i rfl rfl O O v e ?_;unfold j7;rw[g];exact r
theorem Rh (h:jF σ F p ow)(a m:Nat)(ha:a<=1000000){no:Nat}(hno:1<=no)(hno2:no<=1000){R:aN}(hR:∀σ',Ext F σ σ'->jF σ' (Grow F σ) p (j7 ow a m no)->R (uO a m) σ'):Yq.c (aW p) a m (no:Int) σ R:=by
 refine Yq.o ?_;unfold Yq.v;refine Co h (bY.intro (cK rfl (bY.intro (fH O (fH O ?_)))));refine IZ h a m O O no (λj=>?_) λx y u w z A σ' e s=>?_
 ·have:=hR σ (Ext.refl _ _) (by unfold j7;rw[j];exact jF.loc.mono h λb _ r=>.inl r);unfold uO at this;rw[j]at this;exact this
 ·have i:a=x:=by omega
  have d:m=y:=by omega
  subst i;subst d;have g:Zf 1024 (a:Int) (m:Int)=true:=by simp only[Zf,zF,zS];omega
  have:=hR σ' e s;unfold uO at this;rw[g]at this;exact this
theorem Χ (h:jF σ F p ow)(a m:Nat)(ha:a<=1000000){R:aN}(hR:∀σ',Ext F σ σ'->jF σ' (Grow F σ) p (j7 ow a m 0)->R (uO a m) σ'):XY.c (aW p) a m σ R:=by
 refine XY.o ?_;unfold XY.v;refine IZ h a m O O 0 (λj=>?_) λx y u w z A σ' e s=>?_
 ·have:=hR σ (Ext.refl _ _) (by unfold j7;rw[j];exact jF.loc.mono h λb _ r=>.inl r);unfold uO at this;rw[j]at this;exact this
 ·have i:a=x:=by omega
  have d:m=y:=by omega
  subst i;subst d;have g:Zf 1024 (a:Int) (m:Int)=true:=by simp only[Zf,zF,zS];omega
  have:=hR σ' e s;unfold uO at this;rw[g]at this;exact this
end Go.Ar
namespace Go.Proofs
open Go.Shelf
def Tryz.iP:Go.Shelf.Ren:=⟨fun|7=>279|10=>299|n=>n,fun|23=>219|26=>3|3=>4|28=>117|0=>0|27=>116|33=>152|4=>4|n=>n,fun|n=>n⟩
theorem Tryz.nt:Go.Proofs.SlLaysZI.n7 Tryz.prog Tryz.iP:={
 mixed:=by kernel_rfl
 f7:=⟨Tryz.f279.name,by decide,Tryz.func279.trans (congrArg some (by kernel_rfl))⟩
 f10:=⟨Tryz.f299.name,by decide,Tryz.func299.trans (congrArg some (by kernel_rfl))⟩
 t0:=Tryz.underlying0
 a0:=Tryz.isAgg0
 z0:=Tryz.sizeOf0
 v0:=Tryz.zeroValue0
 t4:=Tryz.underlying4
 a4:=Tryz.isAgg4
 z4:=Tryz.sizeOf4
 v4:=Tryz.zeroValue4
 t23:=Tryz.underlying219
 a23:=Tryz.isAgg219
 z23:=Tryz.sizeOf219
 v23:=Tryz.zeroValue219
 t26:=Tryz.underlying3
 a26:=Tryz.isAgg3
 z26:=Tryz.sizeOf3
 v26:=Tryz.zeroValue3
 t27:=Tryz.underlying116
 a27:=Tryz.isAgg116
 z27:=Tryz.sizeOf116
 v27:=Tryz.zeroValue116
 t28:=Tryz.underlying117
 a28:=Tryz.isAgg117
 z28:=Tryz.sizeOf117
 v28:=Tryz.zeroValue117
 t33:=Tryz.underlying152
 a33:=Tryz.isAgg152
 z33:=Tryz.sizeOf152
 v33:=Tryz.zeroValue152}
def Tryz.j2:Go.Shelf.Ren:=⟨fun|6=>66|8=>93|9=>94|11=>127|13=>129|12=>128|23=>167|24=>168|14=>158|15=>159|16=>160|17=>161|18=>162|19=>163|20=>164|21=>165|22=>166|25=>205|26=>206|27=>207|28=>208|29=>209|30=>210|31=>249|n=>n,fun|26=>3|28=>117|24=>69|0=>0|3=>3|37=>199|48=>255|50=>257|4=>4|40=>248|39=>247|45=>252|5=>5|9=>9|51=>299|55=>105|57=>335|58=>336|33=>152|n=>n,fun|n=>n⟩
theorem Tryz.re:Go.Proofs.SlLaysZI.n6 Tryz.prog Tryz.j2:={
 mixed:=by kernel_rfl
 f6:=⟨Tryz.f66.name,by decide,Tryz.func66.trans (congrArg some (by kernel_rfl))⟩
 f8:=⟨Tryz.f93.name,by decide,Tryz.func93.trans (congrArg some (by kernel_rfl))⟩
 f11:=⟨Tryz.f127.name,by decide,Tryz.func127.trans (congrArg some (by kernel_rfl))⟩
 t0:=Tryz.underlying0
 a0:=Tryz.isAgg0
 z0:=Tryz.sizeOf0
 v0:=Tryz.zeroValue0
 t24:=Tryz.underlying69
 a24:=Tryz.isAgg69
 z24:=Tryz.sizeOf69
 v24:=Tryz.zeroValue69
 t26:=Tryz.underlying3
 a26:=Tryz.isAgg3
 z26:=Tryz.sizeOf3
 v26:=Tryz.zeroValue3
 t28:=Tryz.underlying117
 a28:=Tryz.isAgg117
 z28:=Tryz.sizeOf117
 v28:=Tryz.zeroValue117
 i26:=by kernel_rfl}
def Tryz.oy:Go.Shelf.Ren:=⟨fun|8=>93|11=>127|n=>n,fun|26=>3|28=>117|24=>69|0=>0|33=>152|4=>4|n=>n,fun|n=>n⟩
theorem Tryz.xd:Go.Proofs.SlLaysZI.n8 Tryz.prog Tryz.oy:={
 mixed:=by kernel_rfl
 f8:=⟨Tryz.f93.name,by decide,Tryz.func93.trans (congrArg some (by kernel_rfl))⟩
 f11:=⟨Tryz.f127.name,by decide,Tryz.func127.trans (congrArg some (by kernel_rfl))⟩
 t0:=Tryz.underlying0
 a0:=Tryz.isAgg0
 z0:=Tryz.sizeOf0
 v0:=Tryz.zeroValue0
 t24:=Tryz.underlying69
 a24:=Tryz.isAgg69
 z24:=Tryz.sizeOf69
 v24:=Tryz.zeroValue69
 t26:=Tryz.underlying3
 a26:=Tryz.isAgg3
 z26:=Tryz.sizeOf3
 v26:=Tryz.zeroValue3
 t28:=Tryz.underlying117
 a28:=Tryz.isAgg117
 z28:=Tryz.sizeOf117
 v28:=Tryz.zeroValue117
 i26:=by kernel_rfl}
def Tryz.oH:Go.Shelf.Ren:=⟨fun|5=>94|8=>129|7=>128|19=>167|20=>168|10=>158|11=>159|12=>160|13=>161|14=>162|15=>163|16=>164|17=>165|18=>166|30=>205|31=>206|32=>207|33=>208|34=>209|35=>210|40=>249|n=>n,fun|23=>69|25=>3|3=>3|32=>199|22=>69|0=>0|44=>255|46=>257|4=>4|36=>248|35=>247|41=>252|5=>5|9=>9|53=>299|57=>105|63=>335|64=>336|n=>n,fun|n=>n⟩
theorem Tryz.pv:Go.Proofs.SlLaysM.n5 Tryz.prog Tryz.oH:={
 mixed:=by kernel_rfl
 f5:=⟨Tryz.f94.name,by decide,Tryz.func94.trans (congrArg some (by kernel_rfl))⟩
 f7:=⟨Tryz.f128.name,by decide,Tryz.func128.trans (congrArg some (by kernel_rfl))⟩
 f8:=Tryz.func129.trans (congrArg some (by kernel_rfl))
 f10:=⟨Tryz.f158.name,by decide,Tryz.func158.trans (congrArg some (by kernel_rfl))⟩
 f11:=⟨Tryz.f159.name,by decide,Tryz.func159.trans (congrArg some (by kernel_rfl))⟩
 f12:=⟨Tryz.f160.name,by decide,Tryz.func160.trans (congrArg some (by kernel_rfl))⟩
 f13:=⟨Tryz.f161.name,by decide,Tryz.func161.trans (congrArg some (by kernel_rfl))⟩
 f14:=⟨Tryz.f162.name,by decide,Tryz.func162.trans (congrArg some (by kernel_rfl))⟩
 f15:=⟨Tryz.f163.name,by decide,Tryz.func163.trans (congrArg some (by kernel_rfl))⟩
 f16:=⟨Tryz.f164.name,by decide,Tryz.func164.trans (congrArg some (by kernel_rfl))⟩
 f17:=⟨Tryz.f165.name,by decide,Tryz.func165.trans (congrArg some (by kernel_rfl))⟩
 f18:=⟨Tryz.f166.name,by decide,Tryz.func166.trans (congrArg some (by kernel_rfl))⟩
 f19:=Tryz.func167.trans (congrArg some (by kernel_rfl))
 f20:=Tryz.func168.trans (congrArg some (by kernel_rfl))
 f30:=⟨Tryz.f205.name,by decide,Tryz.func205.trans (congrArg some (by kernel_rfl))⟩
 f31:=Tryz.func206.trans (congrArg some (by kernel_rfl))
 f32:=Tryz.func207.trans (congrArg some (by kernel_rfl))
 f33:=⟨Tryz.f208.name,by decide,Tryz.func208.trans (congrArg some (by kernel_rfl))⟩
 f34:=⟨Tryz.f209.name,by decide,Tryz.func209.trans (congrArg some (by kernel_rfl))⟩
 f35:=⟨Tryz.f210.name,by decide,Tryz.func210.trans (congrArg some (by kernel_rfl))⟩
 f40:=⟨Tryz.f249.name,by decide,Tryz.func249.trans (congrArg some (by kernel_rfl))⟩
 t0:=Tryz.underlying0
 a0:=Tryz.isAgg0
 z0:=Tryz.sizeOf0
 v0:=Tryz.zeroValue0
 t3:=Tryz.underlying3
 a3:=Tryz.isAgg3
 z3:=Tryz.sizeOf3
 v3:=Tryz.zeroValue3
 t4:=Tryz.underlying4
 a4:=Tryz.isAgg4
 z4:=Tryz.sizeOf4
 v4:=Tryz.zeroValue4
 t5:=Tryz.underlying5
 a5:=Tryz.isAgg5
 z5:=Tryz.sizeOf5
 v5:=Tryz.zeroValue5
 t9:=Tryz.underlying9
 a9:=Tryz.isAgg9
 z9:=Tryz.sizeOf9
 v9:=Tryz.zeroValue9
 t22:=Tryz.underlying69
 a22:=Tryz.isAgg69
 z22:=Tryz.sizeOf69
 v22:=Tryz.zeroValue69
 t23:=Tryz.underlying69
 a23:=Tryz.isAgg69
 z23:=Tryz.sizeOf69
 v23:=Tryz.zeroValue69
 t25:=Tryz.underlying3
 a25:=Tryz.isAgg3
 z25:=Tryz.sizeOf3
 v25:=Tryz.zeroValue3
 t32:=Tryz.underlying199
 a32:=Tryz.isAgg199
 z32:=Tryz.sizeOf199
 v32:=Tryz.zeroValue199
 t35:=Tryz.underlying247
 a35:=Tryz.isAgg247
 z35:=Tryz.sizeOf247
 v35:=Tryz.zeroValue247
 t36:=Tryz.underlying248
 a36:=Tryz.isAgg248
 z36:=Tryz.sizeOf248
 v36:=Tryz.zeroValue248
 t41:=Tryz.underlying252
 a41:=Tryz.isAgg252
 z41:=Tryz.sizeOf252
 v41:=Tryz.zeroValue252
 t44:=Tryz.underlying255
 a44:=Tryz.isAgg255
 z44:=Tryz.sizeOf255
 v44:=Tryz.zeroValue255
 t46:=Tryz.underlying257
 a46:=Tryz.isAgg257
 z46:=Tryz.sizeOf257
 v46:=Tryz.zeroValue257
 t53:=Tryz.underlying299
 a53:=Tryz.isAgg299
 z53:=Tryz.sizeOf299
 v53:=Tryz.zeroValue299
 t57:=Tryz.underlying105
 a57:=Tryz.isAgg105
 z57:=Tryz.sizeOf105
 v57:=Tryz.zeroValue105
 t63:=Tryz.underlying335
 a63:=Tryz.isAgg335
 z63:=Tryz.sizeOf335
 v63:=Tryz.zeroValue335
 t64:=Tryz.underlying336
 a64:=Tryz.isAgg336
 z64:=Tryz.sizeOf336
 v64:=Tryz.zeroValue336}
end Go.Proofs
namespace Go.Bu
open Go Go.Vc Go.Proofs Go.RowKit Go.Maps Go.Sort Go.Shelf
variable {σ:Hp}
def nP (B:Nat)(h:Hp)(s:Sl)(xs:List Value):Prop:=
 s.len=xs.length/\(xs=[]/\s.a=none\/∃b cs,B<=b/\s.a=some ⟨b,0,none⟩/\bX h b cs/\∀j,j<xs.length->cs[j]?=xs[j]?)
theorem nP.bU {B:Nat}{h h':Hp}{s:Sl}{xs:List Value}{F:Nat->Prop}(hs:nP B h s xs)(e:Ext F h h')(hF:∀b,F b->b<B):nP B h' s xs:=by
 refine⟨hs.1,hs.2.imp id ?_⟩;rintro⟨b,cs,hb,ha,hk,hc⟩;exact⟨b,cs,hb,ha,e.bZ hk (λa=>by have:=hF b a;omega),hc⟩
theorem nP.mono {B B':Nat}{h:Hp}{s:Sl}{xs:List Value}(hs:nP B h s xs)(hB:B'<=B):nP B' h s xs:=by
 refine⟨hs.1,hs.2.imp id ?_⟩;rintro⟨b,cs,hb,ha,hk,hc⟩;exact⟨b,cs,O,ha,hk,hc⟩
theorem nP.pa {B:Nat}{h:Hp}{s:Sl}{xs:List Int}(hs:nP B h s (xs.map (Value.int .i64))){i:Nat}{x:Int}(hx:xs[i]?=some x){K:Int->Prop}(hK:K x) :
 Ix s.a s.len (i:Int) 1 λa=>fF .i64 a h K:=by
 have d:i<xs.length:=(cQ.1 hx).1;rcases hs.2 with⟨h0,_⟩|⟨b,cs,_,ha,hb,hc⟩
 ·simp at h0;subst h0;simp at d
 ·rw[ha];refine ix O (by rw[hs.1];simp;omega) ?_;rw[add_lit];refine nI ?_ hK;rw[hb.cell];have:=hc i (by simpa using d);simpa[hx]using this
theorem Gm {w w':World}(h:Below w.heap.size w w'):bO w.heap w'.heap:=⟨h.size,λb a _=>h.block b a⟩
theorem Dq {n:Nat}{w w':World}(h:Below n w w'):ZP w w':=⟨h.os,h.tape,h.output,h.size⟩
def vo:Nat:=Tryz.iP.f 10
def JG:Nat:=Tryz.iP.t 23
theorem PI (m:Option Nat){R:Fv->Hp->Prop}(hR:R ⟨vo,#[],#[.pointer (some ⟨σ.size,0,none⟩)]⟩ (σ.push (.cells #[.map m] JG (0,0)))) :
 Qp.c m σ R:=by
 rintro w rfl;refine(callsIn_wide.1 (AnyZI.keys_in Tryz.nt Fence.wide 5 trivial rfl m w)).mono ?_;rintro e a ⟨rfl,rfl⟩;exact⟨⟨rfl,rfl,rfl,sf (by show _<(w.heap.push _).size;simp)⟩,[.func (.func vo) #[] #[.pointer (some ⟨w.heap.size,0,none⟩)]],rfl,⟨vo,#[],#[.pointer (some ⟨w.heap.size,0,none⟩)]⟩,rfl,hR⟩
def lY (x:Int):Prop:=-9223372036854775808<=x/\x<=9223372036854775807
theorem U8 {P:Program}{kt:Nat}(hk:P.underlying kt=some (.int .i64)){w:World}{m:Nat}{c:CK}{B:List (Int×c.T)}(h:dK w.heap m .i64 c B)(hb:∀x∈B,lY x.1)(hs:B.length<=1000000) :
 ∃D:DataW Unit,w.ownsMap P kt (λ_=>some (.nil,[])) m B.length D/\(intKeys D).Perm (B.map (·.1))/\Maps.size D=B.length:=by
 obtain⟨d,A,N,s,H,L,z⟩:=h;have j:d.size=B.length:=by simpa using congrArg List.length s
 have i:∀e∈d.toList,∃x:Int,e.key=.int .i64 x/\lY x:=by
  intro e hme;have:(e.key,e.val)∈d.toList.map (λe=>(e.key,e.val)):=yB hme;rw[s]at this;obtain⟨y,K,G⟩:=zC.1 this;simp only[Prod.mk.injEq]at G;exact⟨y.1,G.1.symm,hb y K⟩
 have wf:∀x:Int,lY x->(Lit.int .i64 x).wf=true:=by
  rintro x ⟨u,Q⟩;simp[Lit.wf,IntKind.min,IntKind.max,IntKind.bits,IntKind.signed];omega
 have r:∀e∈d.toList,∃x:Int,e.key=.int .i64 x/\Go.WideElems.rd P kt (λ_=>some ((.nil:DataW Unit),[])) e=some (.int .i64 x,.nil):=by
  intro e hme;obtain⟨x,g,M⟩:=i e hme;refine⟨x,g,?_⟩;simp[Go.WideElems.rd,keyOf,hk,g,mapKey,wf x M]
 refine⟨.map ((d.toList.map (Go.WideElems.rg P kt (λ_=>some (.nil,[])))).foldr DataW.insert []),⟨d,A,N,⟨?_,⟨λx g=>z x g,?_,?_⟩,λx g=>?_⟩,O,rfl⟩,?_,?_⟩
 ·have:1000000<=maxLen:=by unfold maxLen;omega
  omega
 ·exact L.imp (λh=>xl h)
 ·have C:d.toList.map (·.key)=(B.map (·.1)).map (Value.int .i64):=by
   have:=congrArg (List.map Prod.fst) s;simpa[zt,Function.comp_def]using this
  rw[C];exact List.Pairwise.map _ (λa b (F:a≠b) E=>F (by simpa using E)) H
 ·obtain⟨R,_,u⟩:=r x g;exact⟨_,u⟩
 ·simp only[intKeys];refine((Go.WideShapes.sorted_perm _).map _).trans ?_;rw[zt];have:d.toList.map ((λp=>Go.intOf p.1)∘Go.WideElems.rg P kt (λ_=>some ((.nil:DataW Unit),[])))=B.map (·.1):=by
   have C:d.toList.map (·.key)=(B.map (·.1)).map (Value.int .i64):=by
    have:=congrArg (List.map Prod.fst) s;simpa[zt,Function.comp_def]using this
   have J:d.toList.map ((λp=>Go.intOf p.1)∘Go.WideElems.rg P kt (λ_=>some ((.nil:DataW Unit),[])))=(d.toList.map (·.key)).map (λv=>match v with | .int _ x=>x|_=>0):=by
    rw[zt];apply kD;intro e hme;obtain⟨x,g,u⟩:=r e hme;simp[Function.comp,Go.WideElems.rg,u,g,Go.intOf]
   rw[J,C,zt]
   conv=>rhs;rw[←wa (B.map (·.1))]
   rfl
  rw[this]
 ·simp only[Maps.size];rw[(Go.WideShapes.sorted_perm _).length_eq];simp[j]
theorem C1 {w:World}{B e n:Nat}{v:Value}{xs:List Value}(h:w.ownsRow B e 1 v n xs):∃s:Sl,v=.slice s.a s.len s.cap/\nP B w.heap s xs:=by
 obtain⟨b,h⟩:=h;rcases h with⟨rfl,rfl⟩|⟨g,cap,cur,rfl,hb,hg,_,_,hcs,ht⟩
 ·exact⟨⟨none,0,0⟩,rfl,by simp at b;simp[b],.inl ⟨by simpa using b,rfl⟩⟩
 ·refine⟨⟨some ⟨g,0,none⟩,n,cap⟩,rfl,by simp at b;simp[b],.inr ⟨g,cur.toList,hb,rfl,⟨e,by simpa using hg⟩,λj d=>?_⟩⟩;rw[←ht,zY,zB O]
theorem S3 {w:World}{c m:Nat}{B:List (Int×Bool)}(hc:cell w.heap ⟨c,0,none⟩=some (.map (some m)))(hm:dK w.heap m .i64 .b B)(hb:∀x∈B,lY x.1)(hs:B.length<=1000000)(n:Nat)(hn:1<=n) :
 SeqGives Fence.wide n Tryz.prog vo #[.pointer (some ⟨c,0,none⟩)] encZ (λss=>ss.Perm (B.map (·.1))) B.length w:=by
 obtain⟨D,g,j,a⟩:=U8 (P:=Tryz.prog) Tryz.nt.t26 hm hb hs;have d:c<w.heap.size:=by
  unfold cell at hc;split at hc
  ·rename_i h;exact(mA.1 h).1
  ·cases hc
 have:=AnyZI.keys_gives (ρ:=Tryz.iP) {Tryz.nt with} Fence.wide n trivial rfl hn c m B.length D w d hc g;intro l J W hW hJ hY h0;rw[a]at this;refine(this l J W hW hJ hY h0).mono ?_;rintro e W' ⟨i,ss,p,r⟩;exact⟨i,ss,p.trans j,r⟩
theorem El (m:Nat):AnyZI.SortsIn Tryz.prog Tryz.j2 Fence.wide m:=
 ⟨λbZ b cap e W g a d=>callsIn_wide.2 (AnyM.slices_Sort_int Tryz.pv bZ b cap e W g a d),
  λp cap W=>callsIn_wide.2 (AnyM.slices_Sort_int_none Tryz.pv p cap W)⟩
theorem Tq {c m:Nat}{B:List (Int×Bool)}(hc:cell σ ⟨c,0,none⟩=some (.map (some m)))(hm:dK σ m .i64 .b B)(hb:∀x∈B,lY x.1)(hs:B.length<=1000000){R:Sl->Hp->Prop}
 (hR:∀(s:Sl) (σ':Hp) (ss:List Int),bO σ σ'->ss.Perm (B.map (·.1))->nP σ.size σ' s (ss.map (Value.int .i64))->R s σ') :
 Vr.c ⟨vo,#[],#[.pointer (some ⟨c,0,none⟩)]⟩ σ R:=by
 rintro w rfl;have d:=S3 hc hm hb hs 3 O;have j:B.length<=maxLen:=by unfold maxLen;omega
 have y:=AnyZI.collect_in Tryz.xd Fence.wide 5 trivial trivial rfl O vo #[.pointer (some ⟨c,0,none⟩)] trivial (Tryz.nt.f10.enters rfl) _ _ j O _ d;refine(callsIn_wide.1 y).mono ?_;rintro e z ⟨v,ss,rfl,u,i,r,g⟩;obtain⟨s,rfl,p⟩:=C1 i;exact⟨Dq g,[.slice s.a s.len s.cap],rfl,s,rfl,hR s _ ss (Gm g) u p⟩
end Go.Bu
namespace Go.Bu
open Go Go.Vc Go.Proofs
variable {σ:Hp}{p n sb:Nat}{S:Nat->Bool}{ms:List Nat}
theorem NS {B:Nat}{s:Sl}{xs:List Int}(hs:nP B σ s (xs.map (Value.int .i64)))(hl:xs.length<1000000000){m:Int}(hm:m∈xs)(hle:∀y∈xs,m<=y){R:aN}(hR:R m σ):X6.c s σ R:=by
 refine X6.o ?_;unfold X6.v;have A:s.len=xs.length:=by simpa using hs.1
 have g:0<xs.length:=List.length_pos_of_mem hm;refine Jn.intro (fH O ?_);have u:xs[0]?=some xs[0]:=by simp[g]
 refine hs.pa (i:=0) u ?_;refine Kf (a:=bN) (bb:=bN) (λ(c t:Int) z=>∃k:Nat,t=(k:Int)/\k<=xs.length/\z=σ/\c∈xs/\∀(j:Nat) (y:Int),j<k->xs[j]?=some y->c<=y) (λ_ t _=>xs.length-t.toNat)
  ⟨1,rfl,O,rfl,zc _,λj y p d=>?_⟩ ?_
 ·have:j=0:=by omega
  subst this;rw[u]at d;cases d;omega
 rintro c t z ⟨k,rfl,G,rfl,x,b⟩;refine cI (λC=>?_) (λF=>?_)
 ·have r:k<xs.length:=by omega
  have w:xs[k]?=some xs[k]:=by simp[r]
  refine hs.pa w (cA (m:=k+1) O O ⟨⟨k+1,rfl,O,rfl,?_,λj y p d=>?_⟩,O⟩)
  ·split
   ·exact zc _
   ·exact x
  ·by_cases e:j=k
   ·subst e;rw[w]at d;cases d;split<;>omega
   ·have:=b j y O d;split<;>omega
 ·have:k=xs.length:=by omega
  subst this;obtain⟨j,p,e⟩:=uV hm;have E:=b j m p (by simp[p,e]);have D:=hle c x;have:c=m:=Int.le_antisymm E D;rw[this];exact hR
def Ko (n:Nat)(S:Nat->Bool)(k:Nat):List Nat:=((List.range n).filter (can S k)).map (· * 2^k)
theorem Tm (hb:Bounded S n){k q:Nat}(hc:can S k q=true):q<n:=by
 have:=ZQ hb (ZL.1 hc).1;have a:=lb k;have b:q<=q*2^k:=Cy _ a;omega
theorem QS (hb:Bounded S n){k x:Nat}:x∈Ko n S k↔∃q,x=q*2^k/\can S k q=true:=by
 simp only[Ko,zC,zH,zU];constructor
 ·rintro⟨q,⟨_,hc⟩,rfl⟩;exact⟨q,rfl,hc⟩
 ·rintro⟨q,rfl,hc⟩;exact⟨q,⟨Tm hb hc,hc⟩,rfl⟩
theorem Hq (n:Nat)(S:Nat->Bool)(k:Nat):(Ko n S k).Pairwise (· < ·):=by
 unfold Ko;refine List.Pairwise.map _ (λa b h=>Nat.mul_lt_mul_of_pos_right h (lb k)) ?_;exact List.Pairwise.sublist sq List.pairwise_lt_range
theorem HT (n:Nat)(S:Nat->Bool)(k:Nat):(Ko n S k).length=many n S k:=by
 simp[Ko,many,xP]
theorem OT {k:Nat}{B:List (Int×Bool)}(hK:Keys S k B)(hn:(B.map (·.1)).Nodup)(hb:Bounded S n):(B.map (·.1)).Perm ((Ko n S k).map λ(x:Nat)=>(x:Int)):=by
 rw[xp hn]
 ·intro x;simp only[zC];constructor
  ·rintro⟨⟨x1,x2⟩,hm,rfl⟩;obtain⟨_,q,g,d⟩:=hK.1 x1 x2 hm;exact⟨_,(QS hb).2 ⟨q,rfl,d⟩,g.symm⟩
  ·rintro⟨y,hy,rfl⟩;obtain⟨q,rfl,d⟩:=(QS hb).1 hy;exact⟨_,hK.2 q d,rfl⟩
 ·refine List.Pairwise.map _ (λa b (i:a<b)=>?_) (Hq n S k);intro e;have:a=b:=by exact_mod_cast e
  omega
theorem N6 {k:Nat}{B:List (Int×Bool)}(hK:Keys S k B)(hb:Bounded S n)(hn:n<=1024):∀x∈B,lY x.1:=by
 rintro⟨x,v⟩ hx;obtain⟨_,q,rfl,a⟩:=hK.1 x v hx;have:=ZQ hb (ZL.1 a).1;have:=lb k;constructor<;>simp only<;>omega
theorem P2 (h:BH σ p n S sb ms){k:Nat}(hk:ms.length<=k):Ko n S k=[]:=by
 rw[List.eq_nil_iff_forall_not_mem];intro x hx;obtain⟨q,_,a⟩:=(QS h.jG).1 hx;have:=h.fits (ZQ h.jG (ZL.1 a).1);omega
theorem Rn {h:Hp}{v:Value}{e:Nat}:cell (h.push (.cells #[v] e (0,0))) ⟨h.size,0,none⟩=some v:=by simp[cell]
theorem Hh (h:Hp)(o:Obj):bO h (h.push o):=Ext.push _ _ _
def gG (a:Int):Bool:=(List.range 11).any λk=>a==((2^k:Nat):Int)
theorem RA:(List.range 1025).all (λa=>a==0||((a &&& (a-1))==0)==((List.range 11).any λk=>a==2^k))=true:=by decide +kernel
theorem Du {a:Nat}(h1:1<=a)(h2:a<=1024):((a &&& (a-1))==0)=((List.range 11).any λk=>a==2^k):=by
 have:=kM.1 RA a (zU.2 O);simp only[nV,zX]at this;rcases this with h|h
 ·omega
 ·exact h
theorem BV (a:Nat):gG (a:Int)=((List.range 11).any λk=>a==2^k):=by
 unfold gG
 congr 1
 funext k
 rw[nG];simp only[zX];exact⟨λh=>by exact_mod_cast h,λh=>by exact_mod_cast h⟩
def fT (aF align:Int):Bool:=decide (1<=aF)&&(decide (aF<=1024)&&(decide (1<=align)&&(decide (align<=1024)&&gG align)))
def ZT (n:Nat)(S:Nat->Bool)(aF align:Nat):Nat->Option Nat
 | 0=>none
 | k+1=>match ZT n S aF align k with
  | some x=>some x
  | none=>if aF<=2^k/\align<=2^k then(Ko n S k).head? else none
def Zu (n:Nat)(S:Nat->Bool)(aF align:Nat):Option Nat:=ZT n S aF align 11
def jh (n:Nat)(S:Nat->Bool)(aF align:Int):Int:=if fT aF align then(match Zu n S aF.toNat align.toNat with|some _=>0|none=>6)else 1
def jm (n:Nat)(S:Nat->Bool)(aF align:Int):Nat:=if fT aF align then(match Zu n S aF.toNat align.toNat with|some x=>x|none=>0)else 0
def jl (n:Nat)(S:Nat->Bool)(aF align:Int):Nat->Bool:=if fT aF align then(match Zu n S aF.toNat align.toNat with|some x=>take S x (x+aF.toNat)|none=>S)else S
theorem R6 {n:Nat}{S:Nat->Bool}{m a k x:Nat}(h:ZT n S m a k=some x):∀j,k<=j->ZT n S m a j=some x:=by
 intro j hj
 induction j with
 | zero=>
  have:k=0:=by omega
  subst this;exact h
 | succ j ih=>
  by_cases e:k=j+1
  ·subst e;exact h
  ·simp only[ZT,ih O]
theorem Ta (h:BH σ p n S sb ms){m a:Nat}(hn:ZT n S m a ms.length=none):∀j,ms.length<=j->ZT n S m a j=none:=by
 intro j hj
 induction j with
 | zero=>
  have:ms.length=0:=by omega
  rw[this]at hn;exact hn
 | succ j ih=>
  by_cases e:ms.length=j+1
  ·rw[←e];exact hn
  ·simp only[ZT,ih O,P2 h (show ms.length<=j by omega)];simp
theorem OZ {k:Nat}(hpos:0<many n S k):∃x rest,Ko n S k=x::rest:=by
 rw[←HT]at hpos
 match h:Ko n S k with
 | []=>rw[h]at hpos;simp at hpos
 | x::r=>exact⟨x,r,rfl⟩
theorem lK (h:BH σ p n S sb ms)(aF align:Int){R:Int->Int->Hp->Prop}
 (hR:∀σ',Ext (· ∈ ms) σ σ'->BH σ' p n (jl n S aF align) sb ms->R ((jm n S aF align:Nat):Int) (jh n S aF align) σ'):XT.c (aW p) aF align σ R:=by
 refine XT.o ?_;unfold XT.v;have hn2:=h.n2;have hl:=h.len;have L:fT aF align=false->R 0 1 σ:=λe=>by
  have:=hR σ (Ext.refl _ _);simp only[jl,jm,jh,e,zb,zw]at this;exact this h
 have g:¬(1<=aF/\aF<=1024/\1<=align/\align<=1024)->R 0 1 σ:=λhn=>L (by
  simp only[fT,←Bool.and_assoc,←vO];rw[zh];rfl;omega)
 refine yl h (cG rfl (bY.intro ?_));refine cI (λh1=>bY.intro (cK rfl (bY.intro (cK rfl (bY.intro (cK rfl (cK rfl (g O)))))))) λh1=>?_;refine bY.intro (cI (λh2=>bY.intro (cK rfl (bY.intro (cK rfl (cK rfl (g O)))))) λh2=>?_);refine bY.intro (cI (λV=>bY.intro (cK rfl (cK rfl (g O)))) λV=>?_);refine bY.intro (cI (λh4=>cK rfl (g O)) λh4=>?_);obtain⟨a,rfl⟩:=zi (show 0<=align by omega);obtain⟨m,rfl⟩:=zi (show 0<=aF by omega);refine cA (m:=a-1) O O ?_;rw[jo O O];have H:((((a &&& (a-1):Nat):Int)) != 0) = !gG (a:Int):=by
  rw[BV,←Du O O];simp only[bne,Bool.not_inj_iff];rw[nG];simp only[zX];omega
 rw[H];cases P:gG (a:Int)
 ·refine cK rfl (L ?_);simp[fT,P]
 refine cG rfl ?_;have K:fT (m:Int) (a:Int)=true:=by
  simp only[fT,P,sN,zF,zS];omega
 refine aG (h.rB λcap=>?_);refine ZU (a:=bN) (λt F=>∃k:Nat,t=(k:Int)/\k<=ms.length/\F=σ/\ZT n S m a k=none) (λt _=>ms.length-t.toNat) ⟨0,rfl,O,rfl,rfl⟩ ?_;rintro t F ⟨k,rfl,hk,rfl,r⟩;refine cI (λU=>?_) (λac=>?_)
 ·simp only at U;obtain⟨mm,Z⟩:=h.get (k:=k) O;refine h.rM Z (nq O (bY.intro ?_));have next:ZT n S m a (k+1)=none->Ar .i64 ((k:Int)+1) λM=>(∃k:Nat,M=(k:Int)/\k<=ms.length/\F=F/\ZT n S m a k=none)/\ms.length-M.toNat<ms.length-(k:Int).toNat:=
   λN=>cA (m:=k+1) O O ⟨⟨k+1,rfl,O,rfl,N⟩,O⟩
  refine cI (λJ=>?_) (λaa=>cG rfl (next ?_))
  ·have j:m<=2^k/\a<=2^k:=by
    have:((if(a:Int)>(m:Int)then(a:Int)else(m:Int))<=((2^k:Nat):Int)):=J
    split at this<;>omega
   refine h.kU Z ?_;refine cI (λhpos=>?_) (λhz=>next ?_)
   ·have D:0<many n S k:=by omega
    obtain⟨x,rest,Q⟩:=OZ D;obtain⟨q,rfl,hc⟩:=(QS h.jG (k:=k) (x:=x)).1 (by rw[Q];simp);have E:Zu n S m a=some (q*2^k):=by
     refine R6 (k:=k+1) ?_ 11 O;simp only[ZT,r,zB j,Q,List.head?_cons]
    have hfb:=ZQ h.jG (ZL.1 hc).1;obtain⟨B,Y,A⟩:=h.maps k mm Z;have d:=Ex A Y.nodup h.jG;have hle:B.length<=1024:=by
     rw[d];have:=vj (p:=can S k) (l:=List.range n);simp only[many,oQ]at *;omega
    refine PI _ ?_;have X:=Hh F (.cells #[.map (some mm)] JG (0,0));refine Tq Rn (X.gL Y id) (N6 A h.jG h.n2) O λs σ' ss e2 P ad=>?_;have w:=P.trans (OT A Y.nodup h.jG);have u:=w.length_eq;simp only[za]at u;rw[HT,←d]at u;refine NS ad O (m:=((q*2^k:Nat):Int)) (w.mem_iff.2 (by rw[Q];simp)) (λy hy=>?_) ?_
    ·have C:=w.mem_iff.1 hy;have b:=Hq n S k;rw[Q]at C b;simp only[zJ,zQ,zC]at C;rcases C with rfl|⟨z,hz,rfl⟩
     ·omega
     ·have:=(mR.1 b).1 z hz;omega
    ·have ab:=(h.bK X).bK e2;refine J7 ab O (λy hy1 hy2=>KT hc (Qe.2 O)) λV e3 W=>?_;have:=hR V ((X.to.trans e2.to).trans e3);simp only[jl,jm,jh,K,dC,E,zT]at this;exact this W
   ·simp only[ZT,r,zB j];have:Ko n S k=[]:=DL (by rw[HT];omega);rw[this];rfl
  ·have G:¬(m<=2^k/\a<=2^k):=by
    have:¬((if(a:Int)>(m:Int)then(a:Int)else(m:Int))<=((2^k:Nat):Int)):=aa
    split at this<;>omega
   simp only[ZT,r,zA G]
 ·simp only at ac;have:k=ms.length:=by omega
  subst this;have E:Zu n S m a=none:=Ta h r 11 O;have:=hR F (Ext.refl _ _);simp only[jl,jm,jh,K,dC,E,zT]at this;exact this h
end Go.Bu
namespace Go.Ar
open Go.Bu
structure AR where
 n:Nat
 room:Nat
 tb:List bW
 S:Nat->Bool
 st:List Nat
 ow:Nat->Nat
 cC:List (List cH)
 cE:List fP
 runs:List (Nat×Nat)
def AR.ck (A:AR)(k:Int):Bool:=decide (0<=k)&&decide (k<(A.tb.length:Int))
def VX (A:AR)(r:Nat×Nat):AR:={A with ow:=j7 A.ow r.1 r.2 0,st:=VS A.st r.1 r.2 2 [1],S:=QO A.n A.S r.1 r.2}
def VR (A:AR)(rs:List (Nat×Nat)):AR:=rs.foldl VX A
def cY (sp:Sp)(size:Nat):Option Nat:=((List.range (sp.st.length/size)).map (· * size)).find? λs=>s != 0&&fD sp s size==0
def UN (st:List Nat)(a m:Nat):List Nat:=((List.range m).map (a + ·)).foldl (λl (h:Nat)=>jv l h) st
def UO (A:AR)(sp:Sp)(size:Nat):Option (AR×Sp):=match cY sp size with
 | none=>none
 | some s=>some ({A with st:=UN A.st (s/16) (size/16),S:=QO A.n A.S s size},gD sp s size)
def Q4 (m:Nat):Nat:=if m<=16 then 16 else if m<=32 then 32 else 64
def dU (A:AR)(x aF no:Nat):AR:={A with S:=take A.S x (x+aF),st:=VS A.st x aF 1 [2,3],ow:=j7 A.ow x aF no}
def cZ (A:AR)(sp:Sp)(aF align no:Nat):Option Nat×AR×Sp:=match Zu A.n A.S aF align with
 | some x=>(some x,dU A x aF no,sp)
 | none=>match UO A sp (Q4 (max aF align))with
  | none=>(none,A,sp)
  | some (A',sp')=>match Zu A'.n A'.S aF align with
   | some x=>(some x,dU A' x aF no,sp')
   | none=>(none,A',sp')
def Z7 (A:AR)(k:Int):Int:=if A.ck k then(match A.cE[k.toNat]? with
 | some t=>if t.bs=[]then 4 else 0
 | none=>5)else 1
def YM (A:AR)(k:Int):List Int:=if Z7 A k=0 then(match A.cE[k.toNat]? with
 | some t=>t.bs.getLast?.getD []
 | none=>[])else[]
def ZR (A:AR)(k:Int):AR:=if Z7 A k=0 then{A with cE:=A.cE.modify k.toNat fP.rem}else A
def HP (A:AR)(k:Int)(xs:List Int):Int:=if A.ck k then(match A.tb[k.toNat]?,A.cC[k.toNat]? with
 | some c,some ss=>if xs.length=c.batch then(if xs.all (λx=>eD c ss x==some true)then 0 else 8)else 1
 | _,_=>5)else 1
def Vi (A:AR)(k:Int)(xs:List Int):Bool:=decide (HP A k xs=0)&&(match A.cE[k.toNat]? with
 | some t=>decide (t.bs.length<A.room)
 | none=>false)
def Q9 (A:AR)(k:Int)(xs:List Int):AR:=if Vi A k xs then{A with cE:=A.cE.modify k.toNat λt=>{t with bs:=t.bs++[xs]}}else A
def QJ (A:AR)(k m:Int):Int:=if A.ck k then(if m<0 then 1 else 0)else 1
def Vy (A:AR)(k m:Int):List Nat×List cH:=match A.tb[k.toNat]?,A.cC[k.toNat]? with
 | some c,some ss=>Q7 c m.toNat ss
 | _,_=>([],[])
def Yv (A:AR)(k m:Int):List Nat:=if QJ A k m=0 then(Vy A k m).1 else[]
def YQ (A:AR)(k m:Int):AR:=if QJ A k m=0 then{A with cC:=A.cC.set k.toNat (Vy A k m).2}else A
def QW (A:AR)(k:Int)(xs:List Int):Int:=if A.ck k then(match A.tb[k.toNat]?,A.cC[k.toNat]? with
 | some c,some ss=>iV c ss xs
 | _,_=>5)else 1
def Ze (A:AR)(k:Int)(xs:List Int):AR:=if QW A k xs=0 then(match A.tb[k.toNat]?,A.cC[k.toNat]? with
 | some c,some ss=>VR {A with cC:=A.cC.set k.toNat (cJ (xs.foldl (fK c) ss))} ((Z8 (xs.foldl (fK c) ss)).map λs=>(s,c.aF))
 | _,_=>A)else A
def KN (A:AR)(sp:Sp)(k:Int):Int:=if A.ck k then(match A.tb[k.toNat]?,A.cC[k.toNat]? with
 | some c,some ss=>(match (cZ A sp c.aF 1 (k.toNat+1)).1 with
  | some x=>GT c ss x
  | none=>6)
 | _,_=>5)else 1
def cO (A:AR)(sp:Sp)(k:Int):AR×Sp:=if A.ck k then(match A.tb[k.toNat]?,A.cC[k.toNat]? with
 | some c,some ss=>(match cZ A sp c.aF 1 (k.toNat+1)with
  | (some x,A',sp')=>(if GT c ss x=0 then{A' with cC:=A'.cC.set k.toNat (iy c ss x)}else A',sp')
  | (none,A',sp')=>(A',sp'))
 | _,_=>(A,sp))else(A,sp)
def Kc (m a:Int):Bool:=decide (1<=m)&&(decide (m<=64)&&(a==1||(a==2||(a==4||(a==8||a==16)))))
def Qz (A:AR)(sp:Sp)(m a:Int):Int:=if Kc m a then(if(cZ A sp m.toNat a.toNat 41).1.isSome then 0 else 6)else 1
def Z6 (A:AR)(sp:Sp)(m a:Int):Nat:=if Kc m a then(cZ A sp m.toNat a.toNat 41).1.getD 0 else 0
def cD (A:AR)(sp:Sp)(m a:Int):AR×Sp:=if Kc m a then(match cZ A sp m.toNat a.toNat 41 with
 | (some x,A',sp')=>({A' with runs:=mset2 A'.runs x m.toNat},sp')
 | (none,A',sp')=>(A',sp'))else(A,sp)
where mset2 (l:List (Nat×Nat)) (x m:Nat):List (Nat×Nat):=if l.any (λr=>r.1==x)then l.map (λr=>if r.1==x then(x,m)else r)else l++[(x,m)]
def qC (A:AR)(x:Int):Option (Nat×Nat):=A.runs.find? λr=>(r.1:Int)==x
def KQ (A:AR)(x:Int):Int:=if(qC A x).isSome then 0 else 8
def QG (A:AR)(x:Int):AR:=match qC A x with
 | some r=>VX {A with runs:=A.runs.filter λq=>!((q.1:Int)==x)} r
 | none=>A
def r9 (A:AR)(p:Nat):Option (Nat×Nat):=A.runs.find? λr=>decide (r.1<=p)&&decide (p<r.1+r.2)
def U2 (A:AR)(x:Int):Option (Int×Nat):=if x<0 then none else
 let p:=x.toNat/256
 let no:=if p<1024 then A.ow p else 0
 if no=0 then none else if no=41 then(r9 A p).map λr=>(-1,r.1*256)else
 match A.tb[no-1]?,A.cC[no-1]? with
 | some c,some ss=>(q8 c ss x).map λa=>(((no-1:Nat):Int),a)
 | _,_=>none
def wZ (A:AR)(x:Int):Bool:=match U2 A x with
 | some (k,a)=>if(a:Int)=x then(if k<0 then true else(match A.tb[k.toNat]?,A.cC[k.toNat]? with
  | some c,some ss=>eD c ss x==some true
  | _,_=>false))else false
 | none=>false
def UP (A:AR)(p:Int):Bool:=decide (0<=p)&&decide (A.st.getD p.toNat 0≠0)
def QM (A:AR)(k:Nat):AR:=match A.tb[k]?,A.cC[k]? with
 | some c,some ss=>VR {A with cC:=A.cC.set k (cJ ss)} ((Z8 ss).map λs=>(s,c.aF))
 | _,_=>A
def YL (A:AR):AR:=(List.range A.tb.length).foldl QM A
def fE (p:AR×Sp)(r:Nat×Nat):AR×Sp:=({p.1 with st:=VS p.1.st r.1 r.2 3 [2]},dX p.2 r.1 r.2 1)
def V3 (A:AR)(want:Int):List (Nat×Nat):=HN (YL A).st want
def dV (A:AR)(sp:Sp)(want:Int):AR×Sp:=if want<0 then(A,sp)else(V3 A want).foldl fE (YL A,sp)
def kq (A:AR)(want:Int):Nat:=if want<0 then 0 else((V3 A want).map (·.2)).sum
def Vh (p:AR×Sp)(h:Nat):AR×Sp:=({p.1 with st:=jN p.1.st h,S:=j6 p.1.n p.1.S ((h*16:Nat):Int) 16},dX p.2 ((h*16:Nat):Int) 16 0)
def eJ (A:AR)(sp:Sp):AR×Sp:=(Kg A.st 0).foldl Vh (A,sp)
def uZ (A:AR):Nat:=(Kg A.st 0).length
def Ku (A:AR)(k:Nat):AR:=match A.cE[k]? with
 | some t=>t.out.foldl (λA' xs=>Ze A' k xs) {A with cE:=A.cE.set k t.tick}
 | none=>A
def UV (A:AR):AR:=(List.range A.cE.length).foldl Ku A
def Uf (A:AR):Nat:=((A.tb.zip A.cE).map λx=>x.2.bs.flatten.length*x.1.size).sum
def pX (A:AR):Nat:=((A.tb.zip A.cC).map λx=>Kv x.2*x.1.size).sum
def Uu (A:AR):Nat:=((A.tb.zip A.cC).map λx=>x.2.length*x.1.tail).sum
def Ud (A:AR):Nat:=((A.tb.zip A.cC).map λx=>x.2.length*x.1.aF).sum
def Uh (A:AR):Nat:=(A.runs.map (·.2)).sum
end Go.Ar
namespace Go.Ar
open Go.Vc (bV dF cT)
inductive Ph where
 | take (k:Nat)
 | cN (k w:Nat)
 | cP (k w:Nat)
 | grow (k w:Nat)
 | fill
 | eR (m:Nat)
 | find (x:Int)
 | put (k:Nat) (x:Int)
 | back
 | dI (s a:Int)
 | drain
 deriving DecidableEq
structure Th where
 ls:List Li
 bP:List Bt
 ph:Option Ph
structure Cf where
 aF:Nat
 ik:Nat
 threads:Nat
 dA:Nat
 room:Nat
abbrev Bk:=Int×Int×Int×Int
structure Hw where
 tb:List bW
 cf:Cf
 sp:Sp
 bT:List AR
 bQ:List Th
 live:List (Int×Bk)
def YK (bT:List AR)(x:Int):Int:=if x<0 then -1 else match bT.findIdx? (λA=>UP A (x/256))with
 | some i=>(i:Int)
 | none=>-1
def Hw.own (H:Hw)(t:Nat):Nat:=t%H.bT.length
def Hw.eA (H:Hw)(t:Nat)(f:Th->Th):Hw:={H with bQ:=H.bQ.modify t f}
def Hw.cB (H:Hw)(k:Nat)(A:AR):Hw:={H with bT:=H.bT.set k A}
def VG (H:Hw)(x size cls:Int):Hw:={H with live:=dF H.live x (x,size,cls,YK H.bT x)}
def QR (H:Hw)(t k:Nat)(xs:List Int):Hw:=H.eA t λh=>{h with bP:=h.bP++[(k,xs)]}
def kA (H:Hw)(t:Nat):Option Ph:=match H.bQ[t]? with
 | some h=>if h.bP=[]then none else some .back
 | none=>none
def ZW (bT:List AR)(xs:List Int)(a:Nat):List Int:=xs.filter λx=>YK bT x==(a:Int)
def Vj (H:Hw)(k:Nat)(part:Nat->List Int)(l:List Nat):Hw:=l.foldl (λH a=>match H.bT[a]? with
 | some A=>if part a=[]then H else H.cB a (Ze A (k:Int) (part a))
 | none=>H) H
def Gh (H:Hw)(own k:Nat)(xs:List Int):Hw:=match H.bT[own]? with
 | some A=>if(ZW H.bT xs own).length=xs.length/\Vi A (k:Int) xs=true then H.cB own (Q9 A (k:Int) xs)
  else Vj (if(ZW H.bT xs own).length=xs.length then H.cB own (Q9 A (k:Int) xs)else H) k (ZW H.bT xs) (List.range H.bT.length)
 | none=>H
abbrev sL:=Hw×Option Ph×Int×Int
def mG (H:Hw)(x:Int):Int:=if 0<=YK H.bT x then(match H.bT[(YK H.bT x).toNat]? with
 | some A=>(match U2 A x with
  | some (k,y)=>if 0<=k/\(y:Int)=x then 9 else 8
  | none=>8)
 | none=>8)else 8
def UZ (H:Hw)(t:Nat)(x:Int):sL:=match bV H.live x with
 | none=>(H,none,0,mG H x)
 | some b=>if b.2.2.1<0 then({H with live:=cT H.live x},some (.dI (x/256) b.2.2.2),0,0)
  else(QR {H with live:=cT H.live x} t b.2.2.1.toNat [x],some (.put b.2.2.1.toNat x),0,0)
def Hw.kI (H:Hw)(t:Nat):Th:=H.bQ.getD t ⟨[],[],none⟩
def Hw.cls (H:Hw)(k:Nat):bW:=H.tb.getD k ⟨8,1,1⟩
def Hw.eN (H:Hw)(t:Nat):AR:=H.bT.getD (H.own t) ⟨0,0,[],λ_=>false,[],λ_=>0,[],[],[]⟩
def Th.li (h:Th)(k:Nat):Li:=h.ls.getD k iC
def Th.iK (h:Th)(k:Nat)(l:Li):Th:={h with ls:=h.ls.set k l}
def iJ (H:Hw)(t k:Nat)(x:Int):Hw:=
 let c:=H.cls k
 let l:=(H.kI t).li k
 let H1:=H.eA t λh=>h.iK k (dP c x l).2
 let H2:=if(dP c x l).1=[]then H1 else QR H1 t k (dP c x l).1
 let H3:=H2.eA t λh=>{h with bP:=h.bP.drop 1}
 if H.cf.dA<Qt H.tb (H3.kI t).ls then H3.eA t λh=>{h with ls:=Q6 KH H.tb h.ls,bP:=h.bP++Kb KH H.tb h.ls}else H3
def Wt (H:Hw)(t:Nat):Ph->sL
 | .take k=>match Ka (H.cls k) ((H.kI t).li k)with
  | (some x,l)=>(VG (H.eA t λh=>h.iK k l) x ((H.cls k).size:Int) (k:Int),none,x,0)
  | (none,l)=>(H.eA t λh=>h.iK k l,some (.cN k (qb (H.cls k) l)),0,0)
 | .cN k w=>if w=(H.cls k).batch then(if Z7 (H.eN t) (k:Int)=0 then(QR (H.cB (H.own t) (ZR (H.eN t) (k:Int))) t k (YM (H.eN t) (k:Int)),some .fill,0,0)else(H,some (.cP k w),0,0))else(H,some (.cP k w),0,0)
 | .cP k w=>
  let H1:=H.cB (H.own t) (YQ (H.eN t) (k:Int) (w:Int))
  if Yv (H.eN t) (k:Int) (w:Int)=[]then(H1,some (.grow k w),0,0)else(QR H1 t k ((Yv (H.eN t) (k:Int) (w:Int)).map λ(x:Nat)=>(x:Int)),some .fill,0,0)
 | .grow k w=>
  let r:=cO (H.eN t) H.sp (k:Int)
  let H1:={H.cB (H.own t) r.1 with sp:=r.2}
  if KN (H.eN t) H.sp (k:Int)=0 then(H1,some (.cP k w),0,0)else(H1,none,0,KN (H.eN t) H.sp (k:Int))
 | .fill=>match (H.kI t).bP with
  | (k,x::xs)::_=>(VG (H.eA t λh=>{ls:=h.ls.set k (eL xs.reverse (h.li k)),bP:=[],ph:=h.ph}) x ((H.cls k).size:Int) (k:Int),none,x,0)
  | _=>(H,none,0,0)
 | .eR m=>
  let r:=cD (H.eN t) H.sp (m:Int) 1
  let H1:={H.cB (H.own t) r.1 with sp:=r.2}
  let x:Int:=((Z6 (H.eN t) H.sp (m:Int) 1*256:Nat):Int)
  if Qz (H.eN t) H.sp (m:Int) 1=0 then(VG H1 x ((m*256:Nat):Int) (-1),none,x,0)else(H1,none,0,Qz (H.eN t) H.sp (m:Int) 1)
 | .find x=>UZ H t x
 | .put k x=>(iJ H t k x,kA (iJ H t k x) t,0,0)
 | .back=>match (H.kI t).bP with
  | (k,xs)::r=>
   let H1:=Gh (H.eA t λh=>{h with bP:=r}) (H.own t) k xs
   (H1,kA H1 t,0,0)
  | []=>(H,none,0,0)
 | .dI s a=>(match H.bT[a.toNat]? with
  | some A=>H.cB a.toNat (QG A s)
  | none=>H,none,0,0)
 | .drain=>
  let H1:=H.eA t λh=>{h with ls:=Q6 ZX H.tb h.ls,bP:=Kb ZX H.tb h.ls}
  (H1,kA H1 t,0,0)
end Go.Ar
namespace Go.Proofs
open Go.Vc
set_option maxRecDepth 100000
def ZE.h:Hn:=.q .o1 (.q (.q (.cV (.seq [.op,.op,.op,.op,.dD false 3 (RI.ops 3)])) .aK) (.q (.q .o3 (.k (.loop [(15,.I)] (.q .o1 (.q (.c .l .l) (.q (.k (.q .o6 (.q (.cV (.iw true [1] [(37,.one .b)] (.take 0 (.all [(1,.take 2 (.take 3 (.split 23 (.take 4 (.take 5 (.take 6 (.take 7 (.take 8 (.take 9 (.take 10 (.take 11 (.take 12 (.take 13 (.take 14 (.take 15 (.take 16 (.take 17 (.done))))))))))))))) (.take 4 (.take 5 (.take 6 (.split 26 (.take 7 (.take 9 (.take 10 (.take 11 (.take 12 (.take 13 (.all [(8,.all [(14,.take 15 (.take 16 (.take 17 (.done))))]),(14,.all [(8,.take 15 (.take 16 (.take 17 (.done))))])]))))))) (.take 7 (.take 8 (.take 9 (.take 10 (.take 11 (.take 12 (.take 13 (.take 14 (.take 15 (.take 16 (.take 17 (.done)))))))))))))))))))])))) .aK))) .o2)))))) .aM))
def ZE.v (a:Sl)(b:Hp)(c:aO):Prop:=bY (λd e=>If d (c false e) (W6 [bN] (λf=>f 0 e) λg (h:Int) i=>If (h<((a.len:Nat):Int)) (Ix a.a a.len h 3 λj=>aQ j 0 i λk=>aQ j 1 i λl=>aQ j 2 i λm=>aV #[.I 0,.I 0,.I 0] 31 i λn o=>aR n 0 (.I k) o λp=>aR n 1 (.I l) p λq=>aR n 2 (.I m) q λr=>Jn [.b] (λ(s:Bool) t=>If s (c false t) (bL (h+1) λu=>g u t)) λv=>dT r λw=>aS w n 0 λx=>aS w n 1 λy=>aS w n 2 λz=>Qx.c x y z r λaa ab=>If (!aa) (v true ab) (If (h>0) (bL (h-1) λac=>Ix a.a a.len ac 3 λad=>(aQ n 0 ab λae=>aQ ad 0 ab λaf=>v (decide (ae<=af)) ab) ∧ (aQ ad 0 ab λag=>aQ n 0 ab λah=>v (decide (ah<=ag)) ab)) (v false ab))) (c true i))) λai=>If (((a.len:Nat):Int)<1) (ai true b) (ai (decide (((a.len:Nat):Int)>40)) b)
theorem ZE.o {a b c}(d:ZE.v a b c):ZE.c a b c:=Wa Tryz.func40 (x:=ZE.h) (R0 d)
def Z2.h:Hn:=.q .o4 (.q (.k (.q .o4 (.c .aL (.q (.cV (.iw true [] [(13,.one .b)] (.tk [0,1,2] (.split 16 (.tk [3,4,5,6,7,8,9,10,11,12,13,14,15,16] (.done)) (.tk [3,4,5,6] (.split 20 (.tk [7,8,9,10,11,12,13,14,15,16] (.done)) (.tk [7,8,9,10] (.split 24 (.tk [11,12,13,14,15,16] (.done)) (.take 11 (.take 13 (.all [(12,.take 14 (.take 15 (.take 16 (.done))))]))))))))))) .aJ)))) (.q .o4 (.q (.q .o2 .aJ) (.q .o3 .l))))
def Z2.v (a:Sl)(b c:Int)(d:Hp)(e:Int->Int->Hp->Prop):Prop:=aV #[.I b] 3 d λf g=>aV #[.I c] 3 g λh i=>ZE.c a i λj k=>If (!j) (e 0 2 k) (Jn [.b] (λ(l:Bool) m=>If l (e 0 1 m) (Wl.c a ⟨80,#[],#[.pointer (some f),.pointer (some h)]⟩ m λn o=>If (n<0) (e 0 4 o) (e n 0 o))) λp=>dT k λq=>gQ q bN f λ(r:Int)=>If (r<1) (p true k) (gQ q bN h λ(s:Int)=>If (s<1) (p true k) (gQ q bN h λ(t:Int)=>If (t>256) (p true k) (gQ q bN h λ(u:Int)=>gQ q bN h λ(v:Int)=>Qf.c u k λw x=>And (q x) <| p (w != v) x))))
theorem Z2.o {a b c d e}(f:Z2.v a b c d e):Z2.c a b c d e:=Wa Tryz.func41 (x:=Z2.h) (R0 f)
def Zd.h:Hn:=.q .o3 (.q (.q .o3 .aJ) (.q .o4 .l))
def Zd.v (a b c:Int)(d:Hp)(e:Int->Int->Hp->Prop):Prop:=aV #[.I a,.I b,.I c] 31 d λf g=>aQ f 0 g λh=>aQ f 1 g λi=>aQ f 2 g λj=>Qx.c h i j g λk l=>If (!k) (e 0 1 l) (aQ f 0 l λm=>aQ f 1 l λn=>aQ f 2 l λo=>ZJ.c m n o l λp q=>e p 0 q)
theorem Zd.o {a b c d e}(f:Zd.v a b c d e):Zd.c a b c d e:=Wa Tryz.func42 (x:=Zd.h) (R0 f)
def Qo.h:Hn:=.q .o3 (.q (.q .o3 .aJ) (.q (.cV (.held true [] (.tk [0,1,2,3,5,6] (.all [(4,.tk [7,8,9,10] (.done))])))) .l))
def Qo.v (a b c:Int)(d:Hp)(e:Int->Int->Hp->Prop):Prop:=aV #[.I a,.I b,.I c] 31 d λf g=>aQ f 0 g λh=>aQ f 1 g λi=>aQ f 2 g λj=>Qx.c h i j g λk l=>If (!k) (e 0 1 l) (dT l λm=>aS m f 1 λn=>bL (n*256) λo=>aS m f 0 λp=>aS m f 1 λq=>aS m f 2 λr=>aS m f 0 λs=>ZJ.c p q r l λt u=>And (m u) <| bL (t*s) λv=>bL (o-v) λw=>e w 0 u)
theorem Qo.o {a b c d e}(f:Qo.v a b c d e):Qo.c a b c d e:=Wa Tryz.func43 (x:=Qo.h) (R0 f)
def Qx.h:Hn:=.q .o2 (.q (.cV (.seq [.op,.op,.op,.op,.dD true 3 (RI.ops 3),.op,.dD true 4 (RI.ops 4),.op,.dD true 3 (RI.ops 3),.op,.dD true 3 (RI.ops 3),.op,.dD true 6 (RI.ops 6),.op,.dD true 3 (RI.ops 3),.op,.dD true 3 (RI.ops 3),.op])) .l)
def Qx.v (a b c:Int)(d:Hp)(e:aO):Prop:=aV #[.I a,.I b,.I c] 31 d λf g=>aQ f 0 g λh=>bY (λi j=>bY (λk l=>bY (λm n=>bY (λo p=>bY (λq r=>bY (λs t=>bY (λu v=>e u v) λw=>If s (aQ f 2 t λx=>w (decide (x<=32)) t) (w false t)) λy=>If q (aQ f 2 r λz=>y (decide (z≥1)) r) (y false r)) λaa=>If o (aQ f 1 p λab=>bL (ab*256) λac=>aQ f 0 p λad=>aa (decide (ac≥ad)) p) (aa false p)) λae=>If m (aQ f 1 n λaf=>ae (decide (af<=4)) n) (ae false n)) λag=>If k (aQ f 1 l λah=>ag (decide (ah≥1)) l) (ag false l)) λai=>If i (aQ f 0 j λaj=>Nz 8 <| ai ((aj.tmod 8)==0) j) (ai false j)) λak=>If (h≥8) (aQ f 0 g λal=>ak (decide (al<=512)) g) (ak false g)
theorem Qx.o {a b c d e}(f:Qx.v a b c d e):Qx.c a b c d e:=Wa Tryz.func77 (x:=Qx.h) (R0 f)
def Qf.h:Hn:=.q .o1 (.q .o1 (.q (.q .o1 (.k (.loop [(3,.I),(4,.I)] (.q (.q .o3 (.c .l .l)) (.q (.k .o2) .o3))))) .aL))
def Qf.v (a:Int)(b:Hp)(c:aN):Prop:=W6 [bN,bN] (λd=>d 0 1 b) λe (f:Int) (g:Int) h=>If (g<=a) (bL (g*2) λi=>e g i h) (c f h)
theorem Qf.o {a b c}(d:Qf.v a b c):Qf.c a b c:=Wa Tryz.func78 (x:=Qf.h) (R0 d)
def ZY.h:Hn:=.q .o2 (.q (.cV (.seq [.op,.op,.op,.op,.op,.dD true 5 (RI.ops 5),.op])) .l)
def ZY.v (a b c:Int)(d e:Addr)(f:Hp)(g:aO):Prop:=aV #[.I a,.I b,.I c] 31 f λh i=>aQ h 0 i λj=>bM d i λk=>bY (λl m=>g l m) λn=>If (j≥k) (aQ h 0 i λo=>bM e i λp=>Nz p <| n ((o.tmod p)==0) i) (n false i)
theorem ZY.o {a b c d e f g}(h:ZY.v a b c d e f g):ZY.c a b c d e f g:=Wa Tryz.func80 (x:=ZY.h) (R0 h)
def ZJ.h:Hn:=.q .o2 (.q .o7 .l)
def ZJ.v (a b c:Int)(d:Hp)(e:aN):Prop:=aV #[.I a,.I b,.I c] 31 d λf g=>aQ f 1 g λh=>bL (h*256) λi=>aQ f 0 g λj=>Nz j<|bL (i.tdiv j) λk=>e k g
theorem ZJ.o {a b c d e}(f:ZJ.v a b c d e):ZJ.c a b c d e:=Wa Tryz.func81 (x:=ZJ.h) (R0 f)
end Go.Proofs
namespace Go.Ar
open Go Go.Vc Go.Proofs
variable {σ:Hp}
theorem BS (x y z:Int){R:aO}(hR:∀σ',bO σ σ'->R (Uy x y z) σ'):Qx.c x y z σ R:=by
 refine Qx.o ?_;unfold Qx.v;refine nw (cs:=[.int .i64 x,.int .i64 y,.int .i64 z]) λh A e b=>?_;have p:Uy x y z=false->R false h:=λd=>d▸hR h e;have a:¬(8<=x/\x<=512/\x%8=0/\1<=y/\y<=4/\x<=y*256/\1<=z/\z<=32)->R false h:=λd=>p (by rw[←qR,Hv];exact d);refine b.rI rfl (bY.intro ?_);refine cI (λs=>b.rI rfl (bY.intro ?_)) λs=>?_
 case refine_2=>
  iterate 6 refine bY.intro (cG rfl ?_)
  exact a O
 refine cI (λw=>b.rI rfl (nz aB (bY.intro ?_))) λw=>?_
 case refine_2=>
  iterate 5 refine bY.intro (cG rfl ?_)
  exact a O
 rw[Q8 O];refine cU (λg=>b.rI rfl (bY.intro ?_)) λg=>?_
 case refine_2=>
  have:¬x%8=0:=by simpa using g
  iterate 4 refine bY.intro (cG rfl ?_)
  exact a O
 have r:x%8=0:=by simpa using g
 refine cI (λu=>b.rI rfl (bY.intro ?_)) λu=>?_
 case refine_2=>
  iterate 3 refine bY.intro (cG rfl ?_)
  exact a O
 refine cI (λi=>b.rI rfl (ar O O (b.rI rfl (bY.intro ?_)))) λi=>?_
 case refine_2=>
  iterate 2 refine bY.intro (cG rfl ?_)
  exact a O
 refine cI (λm=>b.rI rfl (bY.intro ?_)) λm=>?_
 case refine_2=>exact bY.intro (cG rfl (a O))
 refine cI (λj=>b.rI rfl ?_) λj=>a O;have:decide (z<=32)=Uy x y z:=by
  rw[nG,Hv];simp;omega
 rw[this];exact hR h e
theorem EF {c:bW}(hc:c.ok){R:aN}(hR:∀σ',bO σ σ'->R (c.n:Int) σ'):ZJ.c c.size c.aF c.batch σ R:=by
 refine ZJ.o ?_;unfold ZJ.v;have h:=hc;unfold bW.ok at h;refine nw (cs:=[.int .i64 c.size,.int .i64 c.aF,.int .i64 c.batch]) λh b e a=>?_;refine a.rI rfl (cA (m:=c.aF*256) aA O (a.rI rfl (nz O ?_)));refine cA (m:=c.n) ?_ (by have:=hc.jg;omega) (hR _ e);rw[YN O];simp[bW.n]
theorem UJ (x y z:Int){R:Int->Int->Hp->Prop}(h1:∀c:bW,c.ok->x=c.size->y=c.aF->z=c.batch->∀σ',bO σ σ'->R (c.n:Int) 0 σ')(h0:Uy x y z=false->∀σ',bO σ σ'->R 0 1 σ'):Zd.c x y z σ R:=by
 refine Zd.o ?_;unfold Zd.v;refine nw (cs:=[.int .i64 x,.int .i64 y,.int .i64 z]) λh m e b=>?_;refine b.rI rfl (b.rI rfl (b.rI rfl (BS _ _ _ λj d=>?_)));have a:=d.bZ b id;cases hk:Uy x y z
 ·exact cK rfl (h0 hk _ (e.trans d))
 ·obtain⟨c,g,_,rfl,rfl,rfl⟩:=yZ hk;exact cG rfl (a.rI rfl (a.rI rfl (a.rI rfl (EF g λp i=>h1 c g rfl rfl rfl _ ((e.trans d).trans i)))))
theorem Ep {c:bW}(hc:c.ok){R:Int->Int->Hp->Prop}(hR:∀σ',bO σ σ'->R (c.tail:Int) 0 σ'):Qo.c c.size c.aF c.batch σ R:=by
 refine Qo.o ?_;unfold Qo.v;have h:=hc;unfold bW.ok at h;refine nw (cs:=[.int .i64 c.size,.int .i64 c.aF,.int .i64 c.batch]) λu r e g=>?_;refine g.rI rfl (g.rI rfl (g.rI rfl (BS _ _ _ λw j=>?_)));rw[(Uo c).2 hc];have d:=j.bZ g id;refine cG rfl ?_;refine⟨λb=>bX b σ.size [.int .i64 c.size,.int .i64 c.aF,.int .i64 c.batch],d,⟨_,λb a=>by rw[add_lit,a.cell];rfl,?_⟩⟩;refine cA (m:=c.aF*256) aA O ?_;refine⟨_,λb a=>by rw[add_lit,a.cell];rfl,⟨_,λb a=>by rw[add_lit,a.cell];rfl,⟨_,λb a=>by rw[add_lit,a.cell];rfl,⟨_,λb a=>by rw[add_lit,a.cell];rfl,?_⟩⟩⟩⟩;refine EF hc λs i=>⟨i.bZ d id,?_⟩;have p:=c.pT;refine cA (m:=c.n*c.size) aA O (cA (m:=c.tail) (by unfold bW.tail;omega) (by unfold bW.tail;omega) (hR _ ((e.trans j).trans i)))
end Go.Ar
namespace Go.Proofs
open Go.Vc
set_option maxRecDepth 100000
def X2.h:Hn:=.q .o1 (.q (.q (.cV (.seq [.op,.op,.op,.op,.dD false 2 [.op,.op],.op,.dD false 7 (RI.ops 7)])) .aK) (.q .o8 .l))
def X2.v (a:R2)(b:Int)(c:Hp)(d:aN):Prop:=WU.c a c λe f=>bY (λg h=>bY (λi j=>If i (d (-1) j) (bE a 0 j λl=>Ix l.a l.len b 1 λm=>bM m j λn=>d n j)) λo=>If g (o true h) (bE a 0 h λq=>o (decide (b≥((q.len:Nat):Int))) h)) λr=>If (!e) (r true f) (r (decide (b<0)) f)
theorem X2.o {a b c d}(e:X2.v a b c d):X2.c a b c d:=Wa Tryz.func143 (x:=X2.h) (R0 e)
def WU.h:Hn:=.q .o1 (.q (.cV (.seq [.op,.op,.op,.dD true 6 (RI.ops 6),.op])) .l)
def WU.v (a:R2)(b:Hp)(c:aO):Prop:=bY (λd e=>c d e) λf=>If (!a.isNone) (bE a 0 b λh=>f (decide (((h.len:Nat):Int)>0)) b) (f false b)
theorem WU.o {a b c}(d:WU.v a b c):WU.c a b c:=Wa Tryz.func149 (x:=WU.h) (R0 d)
def Kx.h:Hn:=.q .o2 (.q (.q (.cV (.seq [.op,.op,.op,.dD false 2 [.op,.op],.op,.dD false 3 (RI.ops 3)])) .aJ) (.q .o6 .l))
def Kx.v (a:Int)(b:Hp)(c:Option Addr->Int->Hp->Prop):Prop:=bY (λd e=>bY (λf g=>If f (c none 1 g) (Mk a a 8 3 [.I 0] g λh i=>aV #[.slice h.a h.len h.cap] 231 i λj k=>c (some j) 0 k)) λl=>If d (l true e) (Nz 16 <| l ((a.tmod 16) != 0) e)) λm=>If (a<16) (m true b) (m (decide (a>1024)) b)
theorem Kx.o {a b c}(d:Kx.v a b c):Kx.c a b c:=Wa Tryz.func155 (x:=Kx.h) (R0 d)
def YH.h:Hn:=.q .o3 (.scope (.q (.k (.q .o4 (.c .aL (.q .o3 .aJ)))) (.q .o1 (.q (.q .o3 (.k (.loop [(6,.one .s),(23,.I)] (.q .o1 (.q (.c .l .l) (.q (.k (.q .o2 (.q .o5 (.c .o5 .l)))) .o2)))))) (.q .o3 (.q .o1 (.q .o1 (.q .l (.q (.q .o3 (.k (.loop [(8,.one .s),(9,.I),(41,.I)] (.q .o1 (.q (.c .l .l) (.q (.k (.q .o3 (.q .o1 (.k (.loop [(8,.one .s),(9,.I),(12,.I)] (.q (.q .o2 (.c .l .l)) (.q (.k (.q (.q .o3 (.c .l .l)) (.q .o1 (.q (.k (.loop [(13,.I)] (.q (.q (.cV (.seq [.op,.op,.op,.op,.op,.dD true 9 (RI.ops 9)])) (.c .l .l)) (.k .o3)))) (.q .o2 (.c (.q .fV (.q .o4 .o4)) .l)))))) .o3))))))) .o2)))))) (.q .o3 .l))))))))))
def YH.v (a:R2)(b:Int)(c:Hp)(d:Sl->Int->Hp->Prop):Prop:=aV #[.pointer a] 172 c λe f=>fZ e f λg=>WU.c g f λh i=>If (!h) (d ⟨none,0,0⟩ 5 i) (If (b<0) (d ⟨none,0,0⟩ 1 i) (fZ e i λj=>XO.c j i λk l=>W6 [.s,bN] (λm=>m ⟨none,0,0⟩ 0 l) λn (o:Sl) (p:Int) q=>If (p<k) (fZ e q λr=>Xn.c r p q λs t=>ZK.c s 2 t λu v=>If (u>0) (aV #[.I p] 3 v λw x=>App o 1 8 3 [.I 0] ⟨some w,1,1⟩ x λy z=>bL (p+1) λaa=>n y aa z) (bL (p+1) λab=>n o ab v)) (WP.c o ⟨233,#[],#[.pointer (some e)]⟩ q λac=>W6 [.s,bN,bN] (λad=>ad ⟨none,0,0⟩ 0 0 ac) λae (af:Sl) (ag:Int) (ah:Int) ai=>If (ah<((o.len:Nat):Int)) (Ix o.a o.len ah 1 λaj=>bM aj ai λak=>W6 [.s,bN,bN] (λal=>al af ag 0 ai) λam (an:Sl) (ao:Int) (ap:Int) aq=>If (ap<16) (If (ao≥b) (d an 0 aq) (W6 [bN] (λar=>ar 0 aq) λau (av:Int) aw=>bL (ap+av) λax=>bY (λay az=>If ay (bL (av+1) λa0=>au a0 az) (If (av>0) (bL (ak*16) λa1=>bL (a1+ap) λa2=>aV #[.I a2,.I av] 92 az λa3 a4=>App an 2 16 92 [.I 0,.I 0] ⟨some a3,1,1⟩ a4 λa5 a6=>bL (ao+av) λa7=>bL (ap+av) λa8=>bL (a8+1) λa9=>am a5 a7 a9 a6) (bL (ap+1) λba=>am an ao ba az))) λbb=>If (ax<16) (fZ e aw λbc=>Xn.c bc ak aw λbd be=>bL (ap+av) λbf=>Ix bd.a bd.len bf 1 λbg=>bM bg be λbh=>bb (bh==2) be) (bb false aw))) (bL (ah+1) λbi=>ae an ao bi aq)) (d af 0 ai))))
theorem YH.o {a b c d}(e:YH.v a b c d):YH.c a b c d:=Wa Tryz.func191 (x:=YH.h) (R0 e)
def W9.h:Hn:=.q .o1 (.q .o6 .l)
def W9.v (a:R2)(b c:Int)(d:Hp)(e:aN):Prop:=aV #[.I 2] 3 d λf g=>Xv.c a b c 3 ⟨some f,1,1⟩ g λh i=>e h i
theorem W9.o {a b c d e}(f:W9.v a b c d e):W9.c a b c d e:=Wa Tryz.func192 (x:=W9.h) (R0 f)
def Yw.h:Hn:=.q .o1 (.q .o3 .l)
def Yw.v (a:R2)(b:Hp)(c:Sl->Hp->Prop):Prop:=X8.c a 0 b λd e=>c d e
theorem Yw.o {a b c}(d:Yw.v a b c):Yw.c a b c:=Wa Tryz.func194 (x:=Yw.h) (R0 d)
def Xj.h:Hn:=.q .o1 (.q .o8 (.q (.k (.q .o3 (.c .aL (.q .o4 .aK)))) (.q .o2 .aM)))
def Xj.v (a:R2)(b:Int)(c:Hp)(d:aN):Prop:=XX.c a b c λe f g=>If (f != 0) (d f g) (Q1.c e g λh i=>If (!h) (d 5 i) (Qm.c e 0 i λj=>d 0 j))
theorem Xj.o {a b c d}(e:Xj.v a b c d):Xj.c a b c d:=Wa Tryz.func195 (x:=Xj.h) (R0 e)
def XB.h:Hn:=.q .o1 (.q .o6 .l)
def XB.v (a:R2)(b c:Int)(d:Hp)(e:aN):Prop:=aV #[.I 1] 3 d λf g=>Xv.c a b c 2 ⟨some f,1,1⟩ g λh i=>e h i
theorem XB.o {a b c d e}(f:XB.v a b c d e):XB.c a b c d e:=Wa Tryz.func225 (x:=XB.h) (R0 f)
def XO.h:Hn:=.q .o1 (.q .o7 .l)
def XO.v (a:R2)(b:Hp)(c:aN):Prop:=bE a 0 b λe=>Nz 16<|bL (((e.len:Nat):Int).tdiv 16) λf=>c f b
theorem XO.o {a b c}(d:XO.v a b c):XO.c a b c:=Wa Tryz.func229 (x:=XO.h) (R0 d)
def ZK.h:Hn:=.q .o1 (.q .o1 (.q (.q .o3 (.k (.loop [(5,.I),(10,.I)] (.q .o1 (.q (.c .l .l) (.q (.k (.q .o3 (.q .o3 (.c .o3 .l)))) .o2)))))) .aL))
def ZK.v (a:Sl)(b:Int)(c:Hp)(d:aN):Prop:=W6 [bN,bN] (λe=>e 0 0 c) λf (g:Int) (h:Int) i=>If (h<((a.len:Nat):Int)) (Ix a.a a.len h 1 λj=>bM j i λk=>If (k==b) (bL (g+1) λl=>bL (h+1) λm=>f l m i) (bL (h+1) λn=>f g n i)) (d g i)
theorem ZK.o {a b c d}(e:ZK.v a b c d):ZK.c a b c d:=Wa Tryz.func230 (x:=ZK.h) (R0 e)
def Xn.h:Hn:=.q .o1 (.q (.o 11) .l)
def Xn.v (a:R2)(b:Int)(c:Hp)(d:Sl->Hp->Prop):Prop:=bE a 0 c λf=>bL (b*16) λg=>bL (b+1) λh=>bL (h*16) λi=>eW f 1 g i (f.cap:Nat) λj=>d j c
theorem Xn.o {a b c d}(e:Xn.v a b c d):Xn.c a b c d:=Wa Tryz.func231 (x:=Xn.h) (R0 e)
def XL.h:Hn:=.q .o1 (.q (.cV (.held true [] (.tk [0,1,3,4] (.all [(2,.all [(5,.take 6 (.take 7 (.done)))])])))) (.q (.q .o6 (.q .o2 .aJ)) (.q (.q .o6 (.q .o2 .aJ)) (.q .o4 .l))))
def XL.v (a b:Int)(c:Addr)(d:Hp)(e:aN):Prop:=dT d λf=>gQ f .p c λ(g:R2)=>gQ f .p c λ(h:R2)=>Xn.c g a d λi j=>And (f j) <| Xn.c h b j λk l=>And (f l) <| Qy.c i l λm n=>Qy.c k n λo p=>bL (m-o) λq=>If (q != 0) (e q p) (ZK.c i 1 p λr s=>ZK.c k 1 s λt u=>bL (r-t) λv=>If (v != 0) (e v u) (bL (b-a) λw=>e w u))
theorem XL.o {a b c d e}(f:XL.v a b c d e):XL.c a b c d e:=Wa Tryz.func233 (x:=XL.h) (R0 f)
def Qy.h:Hn:=.q .o1 (.q (.k (.q .o4 (.c .aM (.q .o4 .aK)))) .aM)
def Qy.v (a:Sl)(b:Hp)(c:aN):Prop:=ZK.c a 1 b λd e=>If (d==0) (c 0 e) (ZK.c a 3 e λf g=>If (f>0) (c 1 g) (c 2 g))
theorem Qy.o {a b c}(d:Qy.v a b c):Qy.c a b c:=Wa Tryz.func234 (x:=Qy.h) (R0 d)
def Xv.h:Hn:=.q .o2 (.q (.k (.q .o4 (.c .aM (.q (.cV (.seq [.op,.op,.op,.dD false 2 [.op,.op],.op,.dD false 7 (RI.ops 7),.op,.dD false 9 (RI.ops 9),.op])) .aK)))) (.q .fV (.q (.q .o3 .aK) (.q .o3 .aM))))
def Xv.v (a:R2)(b c d:Int)(e:Sl)(f:Hp)(g:aN):Prop:=aV #[.slice e.a e.len e.cap] 69 f λh i=>WU.c a i λj k=>If (!j) (g 5 k) (bY (λl m=>bY (λn o=>bY (λp q=>If p (g 1 q) (bE a 0 q λs=>bL (b+c) λt=>eW s 1 b t (s.cap:Nat) λu=>Wx.c u ⟨269,#[],#[.pointer (some h)]⟩ q λv w=>If v (g 5 w) (Qm.c u d w λx=>g 0 x))) λy=>If n (y true o) (bE a 0 o λaa=>bL (((aa.len:Nat):Int)-b) λab=>y (decide (c>ab)) o)) λac=>If l (ac true m) (bE a 0 m λae=>ac (decide (b>((ae.len:Nat):Int))) m)) λaf=>If (b<0) (af true k) (af (decide (c<1)) k))
theorem Xv.o {a b c d e f g}(h:Xv.v a b c d e f g):Xv.c a b c d e f g:=Wa Tryz.func235 (x:=Xv.h) (R0 h)
def X8.h:Hn:=.q .o1 (.q (.q .o3 .aK) (.q .o1 (.q (.q .o3 (.k (.loop [(5,.one .s),(13,.I)] (.q .o1 (.q (.c .l .l) (.q (.k (.q .o2 (.q .o4 (.q (.cV (.seq [.op,.op,.op,.op,.op,.dD true 4 (RI.ops 4)])) (.c .o5 .l))))) .o2)))))) .aL)))
def X8.v (a:R2)(b:Int)(c:Hp)(d:Sl->Hp->Prop):Prop:=WU.c a c λe f=>If (!e) (d ⟨none,0,0⟩ f) (XO.c a f λg h=>W6 [.s,bN] (λi=>i ⟨none,0,0⟩ 0 h) λj (k:Sl) (l:Int) m=>If (l<g) (Xn.c a l m λn o=>Ix n.a n.len 0 1 λp=>bM p o λq=>bY (λr s=>If r (aV #[.I l] 3 s λt u=>App k 1 8 3 [.I 0] ⟨some t,1,1⟩ u λv w=>bL (l+1) λx=>j v x w) (bL (l+1) λy=>j k y s)) λz=>If (q != 0) (Qy.c n o λaa ab=>z (aa==b) ab) (z false o)) (d k m))
theorem X8.o {a b c d}(e:X8.v a b c d):X8.c a b c d:=Wa Tryz.func237 (x:=X8.h) (R0 e)
def XX.h:Hn:=.q .o2 (.q (.k (.q .o4 (.c .aL (.q (.cV (.seq [.op,.op,.op,.dD false 4 (RI.ops 4),.op])) .aJ)))) (.q .o5 .l))
def XX.v (a:R2)(b:Int)(c:Hp)(d:Sl->Int->Hp->Prop):Prop:=WU.c a c λe f=>If (!e) (d ⟨none,0,0⟩ 5 f) (bY (λg h=>If g (d ⟨none,0,0⟩ 1 h) (Xn.c a b h λi j=>d i 0 j)) λk=>If (b<0) (k true f) (XO.c a f λl m=>k (decide (b≥l)) m))
theorem XX.o {a b c d}(e:XX.v a b c d):XX.c a b c d:=Wa Tryz.func238 (x:=XX.h) (R0 e)
def Q1.h:Hn:=.q .o1 (.q (.cV (.seq [.op,.op,.op,.op,.op,.dD true 3 (RI.ops 3),.op])) .l)
def Q1.v (a:Sl)(b:Hp)(c:aO):Prop:=Ix a.a a.len 0 1 λd=>bM d b λe=>bY (λf g=>c f g) λh=>If (e != 0) (ZK.c a 1 b λi j=>h (i==0) j) (h false b)
theorem Q1.o {a b c}(d:Q1.v a b c):Q1.c a b c:=Wa Tryz.func239 (x:=Q1.h) (R0 d)
def Qm.h:Hn:=.q .o3 (.k (.loop [(7,.I)] (.q .o1 (.q (.c .l .l) (.q (.k (.q .o2 .o5)) .o2)))))
def Qm.v (a:Sl)(b:Int)(c:Hp)(d:aP):Prop:=W6 [bN] (λe=>e 0 c) λf (g:Int) h=>If (g<((a.len:Nat):Int)) (Ix a.a a.len g 1 λi=>dL i (.I b) h λj=>bL (g+1) λk=>f k j) (d h)
theorem Qm.o {a b c d}(e:Qm.v a b c d):Qm.c a b c d:=Wa Tryz.func240 (x:=Qm.h) (R0 e)
def XM.h:Hn:=.q .o1 (.q .o6 .l)
def XM.v (a:R2)(b c:Int)(d:Hp)(e:aN):Prop:=aV #[.I 2,.I 3] 3 d λf g=>Xv.c a b c 1 ⟨some f,2,2⟩ g λh i=>e h i
theorem XM.o {a b c d e}(f:XM.v a b c d e):XM.c a b c d e:=Wa Tryz.func254 (x:=XM.h) (R0 f)
def YI.h:Hn:=.q .o1 (.q .o5 .l)
def YI.v (a:Int)(b:Addr)(c:Hp)(d:aO):Prop:=jk b c λe=>Wo.c e a c λf g=>d (!f) g
theorem YI.o {a b c d}(e:YI.v a b c d):YI.c a b c d:=Wa Tryz.func269 (x:=YI.h) (R0 e)
def Yg.h:Hn:=.q .o1 (.q .o8 (.q (.k (.q .o3 (.c .aL (.q .o5 .aK)))) (.q .o2 .aM)))
def Yg.v (a:R2)(b:Int)(c:Hp)(d:aN):Prop:=XX.c a b c λe f g=>If (f != 0) (d f g) (Ix e.a e.len 0 1 λh=>bM h g λi=>If (i != 0) (d 5 g) (Qm.c e 3 g λj=>d 0 j))
theorem Yg.o {a b c d}(e:Yg.v a b c d):Yg.c a b c d:=Wa Tryz.func281 (x:=Yg.h) (R0 e)
end Go.Proofs