/- Texts joined. -/
import Derived.Deep.Slices
import Derived.Deep.Fields
import Derived.ChangeSame
import Derived.Lib.SmallJoins
import Derived.Below
import Derived.Test.YteihenagckcobaaGreatDoorProg
import Derived.KernelRfl
import Derived.RangeFuncLeaves
import Derived.RangeFuncRecord
import Derived.RangeFuncSeq
import Derived.RangeFuncCalls
import Derived.OrdersIn
import Derived.TacticsIn
import Derived.RangeFuncIn
import Derived.Shelf.SlIterI.Nil
import Derived.Shelf.SortM.Plain
import Derived.Shelf.SortM.SortNone
import Derived.Ground.GgzProg
import Derived.Ground.SlgmProg
import Derived.Shelf.SlMaps.Clone
import Derived.Ground.SlmcProg
import Derived.Test.YteihenagckcobaaGreatDoorA1
set_option linter.unusedVariables false
set_option linter.unusedSimpArgs false
namespace Go.Vc
open Go
abbrev Rg:=Nat->Prop
def dK (P:Hp->Rg->Prop):Prop:=∀U σ' (F G:Rg),P U F->U.size<=σ'.size->(∀b,b<U.size->F b->G b/\σ'[b]?=U[b]?)->P σ' G
def Grow (F:Rg)(U:Hp):Rg:=λb=>F b\/U.size<=b
theorem dK.mono {P:Hp->Rg->Prop}(hl:dK P){U:Hp}{F G:Rg}(h:P U F)(hs:∀b,b<U.size->F b->G b):P U G:=hl U U F G h (zD _) λb a d=>⟨hs b a d,rfl⟩
theorem dK.bS {P:Hp->Rg->Prop}(hl:dK P){U σ':Hp}{F T:Rg}(h:P U F)(e:Ext T U σ')(hn:∀b,b<U.size->F b->¬T b):P σ' F:=
 hl U σ' F F h e.1 λb a d=>⟨d,e.2 b a (hn b a d)⟩
theorem dK.bO {P:Hp->Rg->Prop}(hl:dK P){U σ':Hp}{F:Rg}(h:P U F)(e:bK U σ'):P σ' F:=hl.bS h e λ_ _ _=>id
def Sep {L:Type}(C:L->Hp->Rg->Prop)(U:Hp)(F:Rg):Prop:=∃ρ:Nat->L,∀i,C i U λb=>F b/\ρ b=i
variable {L:Type}{C:L->Hp->Rg->Prop}{U σ':Hp}{F:Rg}
theorem Sep.loc (hC:∀i,dK (C i)):dK (Sep C):=by
 rintro U j F G ⟨ρ,h⟩ g e;exact⟨ρ,λi=>hC i _ _ _ _ (h i) g λb d a=>⟨⟨(e b d a.1).1,a.2⟩,(e b d a.1).2⟩⟩
theorem Sep.get (h:Sep C U F)(i:L):∃G:Rg,(∀b,G b->F b)/\C i U G:=by
 obtain⟨ρ,h⟩:=h;exact⟨_,λb a=>a.1,h i⟩
open Classical in
theorem Sep.step (hC:∀i,dK (C i))(h:Sep C U F)(i:L):∃G:Rg,(∀b,G b->F b)/\C i U G/\∀(σ':Hp) (C':L->Hp->Rg->Prop) (G':Rg),
 (∀j,j≠i->C' j=C j)->Ext G U σ'->(∀b,G' b->G b\/U.size<=b)->C' i σ' G'->dK (C' i)->Sep C' σ' λb=>F b/\b<U.size/\¬G b\/G' b:=by
 obtain⟨ρ,h⟩:=h;refine⟨_,λb d=>d.1,h i,λσ' C' G' w e r u s=>⟨λb=>if G' b then i else ρ b,λj=>?_⟩⟩
 by_cases hji:j=i
 ·subst hji;exact s.mono u λb _ d=>⟨.inr d,zC d⟩
 ·rw[w j hji];refine hC j _ _ _ _ (h j) e.1 λb d m=>?_;have a:¬(F b/\ρ b=i):=λp=>hji (m.2.symm.trans p.2);have g:¬G' b:=λp=>by
   rcases r b p with h1|h1
   ·exact a h1
   ·omega
  exact⟨⟨.inl ⟨m.1,d,a⟩,(zB g).trans m.2⟩,e.2 b d a⟩
open Classical in
theorem Sep.nm (hC:∀i,dK (C i))(h:Sep C U F)(i j:L)(hij:i≠j):∃G H:Rg,(∀b,G b->F b)/\(∀b,H b->F b)/\(∀b,G b->¬H b)/\C i U G/\C j U H/\∀(σ':Hp) (C':L->Hp->Rg->Prop) (G' H':Rg),
 (∀k,k≠i->k≠j->C' k=C k)->Ext (λb=>G b\/H b) U σ'->(∀b,G' b->(G b\/H b)\/U.size<=b)->(∀b,H' b->(G b\/H b)\/U.size<=b)->(∀b,G' b->¬H' b)->C' i σ' G'->C' j σ' H'->(∀k,dK (C' k)) →
 Sep C' σ' λb=>F b/\b<U.size/\¬(G b\/H b)\/G' b\/H' b:=by
 obtain⟨ρ,h⟩:=h;refine⟨_,_,λb a=>a.1,λb a=>a.1,λb g z=>hij (g.2.symm.trans z.2),h i,h j,λσ' C' G' H' w e x A hd B y u=>⟨λb=>if G' b then i else if H' b then j else ρ b,λk=>?_⟩⟩
 by_cases hki:k=i
 ·subst hki;exact(u _).mono B λb _ a=>⟨.inr (.inl a),zC a⟩
 by_cases hkj:k=j
 ·subst hkj;exact(u _).mono y λb _ a=>⟨.inr (.inr a),by show(if G' b then i else if H' b then k else ρ b)=k;rw[zB λd=>hd b d a,zC a]⟩
 ·rw[w k hki hkj];refine hC k _ _ _ _ (h k) e.1 λb a s=>?_;have r:¬((F b/\ρ b=i)\/F b/\ρ b=j):=by
   rintro(d|d)
   ·exact hki (s.2.symm.trans d.2)
   ·exact hkj (s.2.symm.trans d.2)
  have p:¬G' b:=λd=>by
   rcases x b d with g|g
   ·exact r g
   ·omega
  have m:¬H' b:=λd=>by
   rcases A b d with g|g
   ·exact r g
   ·omega
  exact⟨⟨.inl ⟨s.1,a,r⟩,by show(if G' b then i else if H' b then j else ρ b)=k;rw[zB p,zB m];exact s.2⟩,e.2 b a r⟩
def ib (p:Nat)(cs:List Value):Hp->Rg->Prop:=λU F=>F p/\bX U p cs
theorem ib.loc (p:Nat)(cs:List Value):dK (ib p cs):=λU d F G h g b=>by
 obtain⟨e,a⟩:=h.2;have:=b p h.2.lt h.1;exact⟨this.1,e,this.2.trans a⟩
def jk (r:Nat)(k:IntKind)(c:CK)(l:List (Int×c.T)):Hp->Rg->Prop:=λU F=>F r/\dI U r k c l
theorem jk.loc (r:Nat)(k:IntKind)(c:CK)(l:List (Int×c.T)):dK (jk r k c l):=λU i F G h j d=>by
 have:=d r h.2.lt h.1;obtain⟨e,b,g,a⟩:=h.2;exact⟨this.1,e,b,this.2.trans g,a⟩
def wJ:Hp->Rg->Prop:=λ_ _=>True
theorem wJ.loc:dK wJ:=λ_ _ _ _ _ _ _=>trivial
def ue (s:Sl)(sz:Nat)(xs:List Value):Hp->Rg->Prop:=λU F=>Own F U s sz xs
theorem ue.loc (s:Sl)(sz:Nat)(xs:List Value):dK (ue s sz xs):=λU g F G h d a=>by
 refine⟨h.1,h.2.imp id ?_⟩;rintro⟨b,cs,hq,ha,⟨e,he⟩,r⟩;have:=a b (bX.lt ⟨e,he⟩) hq;exact⟨b,cs,this.1,ha,⟨e,this.2.trans he⟩,r⟩
def bW (s:Sl)(sz:Nat)(xs:List Value):Hp->Rg->Prop:=λh F=>xs.length=s.len*sz/\(s.len=0/\s.cap=0\/∃b cs,F b/\s.a=some ⟨b,0,none⟩/\bX h b cs/\s.len<=s.cap/\cs.length=s.cap*sz/\cs.take xs.length=xs)
theorem bW.loc (s:Sl)(sz:Nat)(xs:List Value):dK (bW s sz xs):=λU g F G h d a=>by
 refine⟨h.1,h.2.imp id ?_⟩;rintro⟨b,cs,hq,ha,⟨e,he⟩,r⟩;have:=a b (bX.lt ⟨e,he⟩) hq;exact⟨b,cs,this.1,ha,⟨e,this.2.trans he⟩,r⟩
theorem _root_.aI{s n xs}:dK (bW s n xs):=bW.loc _ _ _
theorem bW.nil (h:Hp)(F:Rg)(sz:Nat)(a:Option Addr):bW ⟨a,0,0⟩ sz [] h F:=⟨by simp,.inl ⟨rfl,rfl⟩⟩
theorem bW.rd {h:Hp}{F:Rg}{s:Sl}{sz:Nat}{xs:List Value}(ho:bW s sz xs h F):Rd h s.a xs:=by
 rcases ho.2 with⟨hl,_⟩|⟨b,cs,_,ha,hb,_,_,ht⟩
 ·have:=ho.1;rw[hl]at this;simp at this;subst this;cases s.a<;>simp[Rd]
 ·rw[ha];intro j v hv;rw[add_lit,hb.cell,zH];rw[←ht,zj]at hv;split at hv
  ·exact hv
  ·cases hv
theorem bW.app {F:Rg}{h:Hp}{s x:Sl}{sz bytes e:Nat}{zs xs ys:List Value}{K:Sl->Hp->Prop}(ho:bW s sz xs h F)(hz:zs.length=sz)
 (hy:ys.length=x.len*sz) (hr:Rd h x.a ys) (h1:∀v∈ys,dV v=true) (hb:(s.len+x.len)*bytes<=2^46) (hc:s.len+x.len<=2^62)
 (hx:0<x.len) (hK:∀s' h',s'.len=s.len+x.len->Ext F h h'->bW s' sz (xs++ys) h' (Grow F h)->K s' h'):App s sz bytes e zs x h K:=by
 refine⟨xs,ys,ho.1,hy,ho.rd,hr,h1,hb,hc,λg=>?_,λp c i=>?_⟩
 ·rcases ho.2 with⟨hl,hcap⟩|⟨b,cs,hQ,ha,hk,hle,hcl,ht⟩
  ·omega
  ·rw[ha];simp only;rw[add_lit];have r:(s.len+x.len)*sz<=s.cap*sz:=lq _ g;rw[zk]at r;have d:=ho.1;refine Vu hk O λh' j m=>hK _ h' rfl (Ext.eD j hQ) ⟨?_,.inr ⟨b,_,.inl hQ,rfl,m,g,?_,?_⟩⟩
   ·simp[d,hy,zk]
   ·simp;omega
   ·rw[zQ,d];rw[zH,zz,←d];rw[ht,nt aA,mi aA]
 ·refine hK _ _ rfl (Ext.push _ _ _) ⟨by simp[ho.1,hy,zk],.inr ⟨h.size,xs++ys++(List.replicate (c-(s.len+x.len)) zs).flatten,.inr (zD _),rfl,⟨e,by simp⟩,i,?_,?_⟩⟩
  ·simp only[zQ,tG,sv,vd,ho.1,hy,hz,←zk]
   congr 1;omega
  ·rw[nt aA,mi aA]
theorem bW.st {F:Rg}{h:Hp}{s:Sl}{sz:Nat}{xs:List Value}(ho:bW s sz xs h F){j:Nat}(hj:j<xs.length){v:Value}{K:aP}{a:Addr}(ha:∀b,s.a=some ⟨b,0,none⟩->a=⟨b,j,none⟩)
 (hK:∀h',Ext F h h'->bW s sz (xs.set j v) h' F->K h'):eP a v h K:=by
 rcases ho.2 with⟨hl,_⟩|⟨b,cs,hq,hsa,hb,hle,hcl,ht⟩
 ·have:=ho.1;rw[hl]at this;simp at this;subst this;simp at hj
 ·rw[ha b hsa];have d:j<cs.length:=by
   have:(cs.take xs.length).length=xs.length:=by rw[ht]
   rw[zZ]at this;omega
  refine⟨by rw[hb.cell,cW d];rfl,hb.nb,hK _ (Ext.jt (F:=F) hq) ⟨by simp[ho.1],.inr ⟨b,_,hq,hsa,hb.set v,hle,by simp[hcl],?_⟩⟩⟩;rw[nk,List.take_set,ht]
def cT (s:Sl)(sz:Nat)(xs:List Value):Hp->Rg->Prop:=λU F=>xs.length=s.len*sz/\(xs=[]\/∃b o cs,F b/\s.a=some ⟨b,o,none⟩/\lO U b cs/\∀j,j<xs.length->cs[o+j]?=xs[j]?)
theorem cT.loc (s:Sl)(sz:Nat)(xs:List Value):dK (cT s sz xs):=λU g F G h d a=>by
 refine⟨h.1,h.2.imp id ?_⟩;rintro⟨b,o,cs,hq,ha,⟨e,z,he⟩,r⟩;have:=a b (lO.lt ⟨e,z,he⟩) hq;exact⟨b,o,cs,this.1,ha,⟨e,z,this.2.trans he⟩,r⟩
theorem _root_.aH{s n xs}:dK (cT s n xs):=cT.loc _ _ _
theorem bW.ig {Q:Rg}{h:Hp}{s:Sl}{sz:Nat}{xs:List Value}(ho:bW s sz xs h Q):cT s sz xs h Q:=by
 refine⟨ho.1,?_⟩;rcases ho.2 with⟨hl,_⟩|⟨b,cs,hq,ha,hb,_,_,ht⟩
 ·left;have:=ho.1;rw[hl]at this;simpa using this
 ·refine .inr ⟨b,0,cs,hq,ha,hb.q,λj a=>?_⟩;rw[←ht,zj,zH,zC a]
theorem cT.cell {s:Sl}{sz:Nat}{xs:List Value}(h:cT s sz xs U F){j:Nat}{v:Value}(hv:xs[j]?=some v):∃b o,s.a=some ⟨b,o,none⟩/\Vc.cell U ⟨b,o+j,none⟩=some v:=by
 have d:=(cX.1 hv).1;rcases h.2 with h0|⟨b,o,cs,_,ha,hb,hc⟩
 ·subst h0;simp at d
 ·exact⟨b,o,ha,by rw[hb.cell,hc j d];exact hv⟩
theorem cT.od {s:Sl}{k:IntKind}{xs:List Int}(h:cT s 1 (xs.map (Value.int k)) U F){i:Nat}{x:Int}(hx:xs[i]?=some x){K:Int->Prop}(hK:K x):Ix s.a s.len (i:Int) 1 λa=>gP k a U K:=by
 have m:=(cX.1 hx).1;obtain⟨b,o,g,e⟩:=h.cell (j:=i) (v:=.int k x) (by simp[hx]);have d:=h.1;simp at d;rw[g];refine ix O O ?_;rw[add_lit];exact m9 (by simpa using e) hK
theorem cT.rd {s:Sl}{sz:Nat}{xs:List Value}(h:cT s sz xs U F):Rd U s.a xs:=by
 cases ha:s.a with
 | none=>
  rcases h.2 with h0|⟨b,o,cs,_,d,_⟩
  ·exact h0
  ·rw[ha]at d;cases d
 | some a=>
  intro j v hv;obtain⟨b,o,d,e⟩:=h.cell hv;rw[ha]at d;cases d;rw[add_lit];exact e
end Go.Vc
namespace Go.Vc
open Go Go.ChangeShapes Go.WideShapes Go.Deep Go.RowKit
def Lp (U:Hp):Bool->Hp->Prop:=λb σ'=>b=true/\bK U σ'
theorem J0 {P:Program}{f:Nat}{args:Array Value}{w:World}(h:Wc P f args [.one .b] w.heap (Lp w.heap)):Calls P f args w λe w'=>e=.returned (.bool true)/\Below w.heap.size w w':=by
 refine(h w rfl).mono ?_;rintro e w' ⟨a,vs,rfl,g⟩
 match vs,g with
 | [v],g=>
  obtain⟨x,rfl,m,j⟩:=g;have d:x=true:=m;subst d;exact⟨rfl,⟨a.1,a.2.1,a.2.2.1,a.2.2.2,λk i=>j.2 k i id⟩⟩
def hO (h:Hp)(l:Sl)(xs:List (Int×Int×Int)):Prop:=l.len=xs.length/\∀i x y z,xs[i]?=some (x,y,z)->∃b o,l.a=some ⟨b,o,none⟩/\b<h.size ∧
 cell h ⟨b,o+i*3,none⟩=some (.int .i64 x)/\cell h ⟨b,o+i*3+1,none⟩=some (.int .i64 y)/\cell h ⟨b,o+i*3+2,none⟩=some (.int .i64 z)
theorem I3 {h:Hp}{a:Addr}{v:Value}(hc:cell h a=some v):a.block<h.size/\a.spot=none:=by
 unfold cell at hc;split at hc
 ·rename_i heq;refine⟨(zy.1 heq).1,?_⟩;cases hs:a.spot with
  | none=>rfl
  | some s=>rw[hs]at hc;simp at hc
 ·cases hc
end Go.Vc
namespace Go.Vc
open Go
theorem my {k:IntKind}{b o i:Nat}{h:Hp}{x:Int}{K:Int->Prop}(hc:cell h ⟨b,o+i,none⟩=some (.int k x))(hK:K x):gP k (Addr.add ⟨b,o,none⟩ i) h K:=by
 rw[add_lit];exact m9 hc hK
theorem cQ {e:Int}{m:Nat}{K:Int->Prop}(he:e=(m:Int))(hm:m<=4611686018427387904)(hK:K (m:Int)):Ar .i64 e K:=by
 rw[he];exact ar O O hK
theorem Cx {k:Nat}(h:k<=62):min ((k:Int).toNat) IntKind.i64.bits=k:=by
 have:IntKind.i64.bits=64:=rfl;rw[this];omega
theorem xT {k:IntKind}{e:Int}{K:Int->Prop}(hK:K (k.wrap e)):Ar k e K:=hK
variable {U:Hp}{b o i j:Nat}{cs:List Value}
theorem bX.rI (hb:bX U b cs){k:IntKind}{x:Int}{K:Int->Prop}(hc:cs[o+i]?=some (.int k x))(hK:K x):gP k (Addr.add ⟨b,o,none⟩ i) U K:=by
 rw[add_lit];exact m9 (hb.cell.trans hc) hK
theorem bX.rB (hb:bX U b cs){x:Bool}{K:Bool->Prop}(hc:cs[o+i]?=some (.bool x))(hK:K x):kR (Addr.add ⟨b,o,none⟩ i) U K:=by
 rw[add_lit];exact mO (hb.cell.trans hc) hK
theorem bX.rP (hb:bX U b cs){x:Option Addr}{K:Option Addr->Prop}(hc:cs[o+i]?=some (.pointer x))(hK:K x):fQ (Addr.add ⟨b,o,none⟩ i) U K:=by
 rw[add_lit];exact r8 (hb.cell.trans hc) hK
theorem bX.rM (hb:bX U b cs){x:Option Nat}{K:Option Nat->Prop}(hc:cs[o+i]?=some (.map x))(hK:K x):kF (Addr.add ⟨b,o,none⟩ i) U K:=by
 rw[add_lit];exact CA (hb.cell.trans hc) hK
theorem bX.rS (hb:bX U b cs){a:Option Addr}{n c:Nat}{K:Sl->Prop}(hc:cs[o+i]?=some (.slice a n c))(hK:K ⟨a,n,c⟩):ja (Addr.add ⟨b,o,none⟩ i) U K:=by
 rw[add_lit];exact m4 (hb.cell.trans hc) hK
theorem bX.fR (hb:bX U b cs){k:IntKind}{x:Int}{K:Int->Prop}(hc:cs[o+i+j]?=some (.int k x))(hK:K x):gP k (Addr.add (Addr.add ⟨b,o,none⟩ i) j) U K:=by
 rw[add_lit,add_lit];exact m9 (hb.cell.trans hc) hK
theorem bX.se (hb:bX U b cs){k:IntKind}{x:Int}{K:Int->Prop}(hc:cs[o]?=some (.int k x))(hK:K x):gP k ⟨b,o,none⟩ U K:=m9 (hb.cell.trans hc) hK
theorem bX.oQ (hb:bX U b cs){x:Option Addr}{K:Option Addr->Prop}(hc:cs[o]?=some (.pointer x))(hK:K x):fQ ⟨b,o,none⟩ U K:=r8 (hb.cell.trans hc) hK
theorem bX.sJ (hb:bX U b cs){a:Option Addr}{n c:Nat}{K:Sl->Prop}(hc:cs[o]?=some (.slice a n c))(hK:K ⟨a,n,c⟩):ja ⟨b,o,none⟩ U K:=m4 (hb.cell.trans hc) hK
theorem bX.s1 (hb:bX U b cs){v:Value}(ho:o+i<cs.length){K:aP}(hK:∀h',Qg U h' b->bX h' b (cs.set (o+i) v)->K h'):eP (Addr.add ⟨b,o,none⟩ i) v U K:=by
 rw[add_lit];refine⟨?_,hb.nb,hK _ ⟨KI _ _ _,λc a=>Vd a⟩ (hb.set v)⟩;rw[hb.cell,cW ho];rfl
theorem bX.s0 (hb:bX U b cs){v:Value}(ho:o<cs.length){K:aP}(hK:∀h',Qg U h' b->bX h' b (cs.set o v)->K h'):eP ⟨b,o,none⟩ v U K:=by
 refine⟨?_,hb.nb,hK _ ⟨KI _ _ _,λc a=>Vd a⟩ (hb.set v)⟩;rw[hb.cell,cW ho];rfl
theorem nw {e:Nat}{K:Addr->Hp->Prop}(hK:∀h',h'.size=U.size+1->bK U h'->bX h' U.size cs->K ⟨U.size,0,none⟩ h'):Nw (.cells cs.toArray e (0,0)) U K:=
 hK _ aA (Ext.push _ _ _) (bX.push _ _ _)
theorem qZ {K:Addr->Hp->Prop}(hK:∀h',h'.size=U.size+1->bK U h'->(∀(k:IntKind) (c:CK),dI h' U.size k c [])->K ⟨U.size,0,none⟩ h'):Nw (.map #[] 0) U K:=
 hK _ aA (Ext.push _ _ _) λk c=>dI.push _ _ _
theorem mk {n bytes e:Nat}{zs:List Value}{K:Sl->Hp->Prop}(h1:bytes*n<=1073741824)(h2:n<=1073741824)
 (hK:∀h',h'.size=U.size+1->bK U h'->bX h' U.size (List.replicate n zs).flatten->K ⟨some ⟨U.size,0,none⟩,n,n⟩ h'):Mk (n:Int) (n:Int) bytes e zs U K:=by
 refine⟨O,Int.le_refl _,?_,O,?_⟩
 ·have:((bytes:Int)*(n:Int))=((bytes*n:Nat):Int):=by simp
  rw[this];omega
 ·simp only[dC];exact nw hK
theorem jf {s:Sl}{sz lo hi mx:Nat}{K:Sl->Prop}(h1:lo<=hi)(h2:hi<=mx)(h3:mx<=s.cap)(hK:K ⟨if mx=lo then s.a else s.a.map (·.add (lo*sz)),hi-lo,mx-lo⟩):eY s sz (lo:Int) (hi:Int) (mx:Int) K:=
 ⟨O,O,O,O,by simpa using hK⟩
theorem k5 (a b:Nat):(((a:Nat):Int)==((b:Nat):Int))=(a==b):=by rw[mq];simp;omega
theorem pc (a b:Nat):(((a:Nat):Int) != ((b:Nat):Int))=(a != b):=by rw[bne,bne,k5]
theorem tB (a:Nat):(((a:Nat):Int)==0)=(a==0):=k5 a 0
theorem LQ (a:Nat):(((a:Nat):Int) != 0)=(a != 0):=pc a 0
def ints (l:List Nat):List Value:=l.map λ(x:Nat)=>Value.int .i64 (x:Int)
theorem Qv (l:List Nat):(ints l).length=l.length:=by simp[ints]
theorem LL {l:List Nat}{i x:Nat}(h:l[i]?=some x):(ints l)[i]?=some (.int .i64 (x:Int)):=by simp[ints,h]
theorem Uk (l m:List Nat):ints (l++m)=ints l++ints m:=by simp[ints]
theorem cT.qD {s:Sl}{F:Rg}{xs:List Nat}(h:cT s 1 (ints xs) U F){i x:Nat}(hx:xs[i]?=some x){K:Int->Prop}(hK:K (x:Int)):Ix s.a s.len (i:Int) 1 λa=>gP .i64 a U K:=by
 have j:=(cX.1 hx).1;obtain⟨b,o,g,e⟩:=h.cell (LL hx);have d:=h.1;rw[Qv]at d;rw[g];refine ix O O ?_;rw[add_lit];exact m9 (by simpa using e) hK
theorem cT.oe {s:Sl}{F:Rg}{xs:List Nat}(h:cT s 1 (ints xs) U F):s.len=xs.length:=by
 have:=h.1;rw[Qv]at this;omega
theorem cT.nil (F:Rg)(a:Option Addr)(c sz:Nat):cT ⟨a,0,c⟩ sz [] U F:=⟨by simp,.inl rfl⟩
theorem bX.ig {s:Sl}{sz:Nat}{xs:List Value}(hb:bX U b cs)(ha:s.a=some ⟨b,o,none⟩)(hl:xs.length=s.len*sz)(hc:∀j,j<xs.length->cs[o+j]?=xs[j]?):cT s sz xs U (· = b):=
 ⟨hl,.inr ⟨b,o,cs,rfl,ha,hb.q,hc⟩⟩
theorem cT.any {s:Sl}{sz:Nat}{xs:List Value}{F:Rg}(h:cT s sz xs U F):cT s sz xs U λ_=>True:=(cT.loc s sz xs).mono h λ_ _ _=>trivial
theorem OG {a xa:Option Addr}{xc sz bytes e:Nat}{zs:List Value}{K:Sl->Hp->Prop}(hK:K ⟨a,0,0⟩ U):App ⟨a,0,0⟩ sz bytes e zs ⟨xa,0,xc⟩ U K:=by
 refine⟨[],[],by simp,by simp,by cases a<;>simp[Rd],by cases xa<;>simp[Rd],by simp,by simp,by simp,λ_=>?_,λh=>absurd (zD 0) h⟩
 cases a
 ·exact hK
 ·exact hK
theorem bW.push {F:Rg}{s:Sl}{sz bytes e t:Nat}{zs xs vs:List Value}{K:Sl->Hp->Prop}(ho:bW s sz xs U F)(hF:∀b,U.size<=b->F b)(hz:zs.length=sz)(hv:vs.length=sz)(h1:∀v∈vs,dV v=true)
 (hb:bytes<=1000) (hl:s.len<=1000000) (hK:∀s' h',s'.len=s.len+1->Ext F U h'->bW s' sz (xs++vs) h' F->K s' h') :
 Nw (.cells vs.toArray t (0,0)) U λn v=>App s sz bytes e zs ⟨some n,1,1⟩ v K:=by
 refine nw λv m e1 i=>?_;have a:=(bW.loc s sz xs).bO ho e1;refine a.app (ys:=vs) hz (by simp[hv]) ?_ h1 ?_ ?_ mI λs' h' d r g=>hK s' h' d (e1.to.trans r) ?_
 ·intro j u hu;rw[add_lit,zH,i.cell];exact hu
 ·simp only;have:(s.len+1)*bytes<=1000001*1000:=lp O hb;omega
 ·simp only;omega
 ·exact aI.mono g λb _ p=>by
   rcases p with h|h
   ·exact h
   ·exact hF b O
theorem bW.oe {F:Rg}{s:Sl}{xs:List Nat}(h:bW s 1 (ints xs) U F):s.len=xs.length:=by
 have:=h.1;rw[Qv]at this;omega
theorem AB {F:Rg}{s:Sl}{sz bytes e:Nat}{zs vs:List Value}{R:Sl->Hp->Prop}(h:cT s sz vs U F)(hpos:0<sz)(hz:zs.length=sz)(h1:∀v∈vs,dV v=true)(hb:bytes<=1000)(hl:s.len<=1000000)
 (hR:∀s' σ',s'.len=s.len->bK U σ'->bW s' sz vs σ' (λb=>U.size<=b)->R s' σ') :
 If s.a.isNone (R ⟨none,0,0⟩ U) (Nw (.cells #[] e (0,0)) U λn v=>App ⟨some n,0,0⟩ sz bytes e zs s v λt v1=>R t v1):=by
 have d:=h.1;refine cY (λm=>?_) λm=>?_
 ·have u:vs=[]:=by
   rcases h.2 with g|⟨b,o,cs,_,ha,_⟩
   ·exact g
   ·rw[ha]at m;cases m
  subst u;have g:s.len=0:=by
   have B:s.len*sz=0:=by simpa using d.symm
   rcases sU.1 B with h|h
   ·exact h
   ·omega
  exact hR _ _ (by simp[g]) (Ext.refl _ _) (bW.nil _ _ _ _)
 ·refine nw (cs:=[]) λv r e1 A=>?_;have x:=(cT.loc s sz vs).bO h e1;rcases xC s.len with g|g
  ·obtain⟨a,n,c⟩:=s;simp only at g;subst g;have:vs=[]:=by simpa using d
   subst this;exact OG (hR _ _ rfl e1 (bW.nil _ _ _ _))
  ·refine(bW.nil v (λb=>U.size<=b) sz (some ⟨U.size,0,none⟩)).app (ys:=vs) hz d x.rd h1 ?_ ?_ g λs' w p z j=>hR s' w (by simpa using p) ?_ ?_
   ·simp only[zH];have:s.len*bytes<=1000000*1000:=lp hl hb;omega
   ·simp only;omega
   ·exact Ext.fresh e1 z λi C=>C
   ·rw[r5]at j;exact aI.mono j λb _ y=>by
     rcases y with h|h
     ·exact h
     ·omega
def Cut (F:Rg)(U:Hp):Rg:=λb=>F b/\b<U.size
theorem dK.cut {P:Hp->Rg->Prop}(hl:dK P){F:Rg}(h:P U F):P U (Cut F U):=hl.mono h λb a d=>⟨d,a⟩
theorem Ext.cut {F:Rg}{σ':Hp}(e:Ext (Cut F U) U σ'):Ext F U σ':=⟨e.1,λb a d=>e.2 b a λg=>d g.1⟩
theorem Ext.sub {F G:Rg}{a b:Hp}(e:Ext F a b)(h:∀i,F i->G i):Ext G a b:=e.mono λi _ d=>h i d
theorem Qg.ext {h h':Hp}{r:Nat}(ho:Qg h h' r):Ext (· = r) h h':=Ext.eD ho rfl
theorem Ext.jh {F:Rg}{a b c:Hp}(e:Ext F a b)(k:Ext (Grow F a) b c):Ext F a c:=
 ⟨ky e.1 k.1,λi g d=>(k.2 i (sr g e.1) λj=>by rcases j with h|h;exact d h;omega).trans (e.2 i g d)⟩
theorem Ext.dS {F G:Rg}{a b c:Hp}(e:Ext F a b)(k:Ext G b c)(h:∀i,G i->F i\/a.size<=i):Ext F a c:=e.jh (k.sub h)
theorem oS {P:Program}{f:Nat}{first caps:Array Value}{args:List Value}{all:Array Value}{rs:List SK}{R:eH (eM rs)}(hok:Vl P f=true)(he:first++args.toArray++caps=all)
 (hc:Wc P f all rs U R):VE P ⟨f,first,caps⟩ args rs U R:=⟨hok,by unfold BM;simp only;rw[he];exact hc⟩
theorem Ka {h h':Hp}{F:Nat->Prop}(e:Ext F h h'){b o:Nat}(hb:b<h.size)(hF:¬F b):cell h' ⟨b,o,none⟩=cell h ⟨b,o,none⟩:=by
 unfold cell;rw[e.2 b hb hF]
theorem MJ {h h':Hp}{l:Sl}{xs:List (Int×Int×Int)}{F:Nat->Prop}(ha:hO h l xs)(e:Ext F h h')(hF:∀b,F b->∀o,l.a≠some ⟨b,o,none⟩):hO h' l xs:=by
 refine⟨ha.1,λi x y z p=>?_⟩;obtain⟨b,o,j,d,r,m,s⟩:=ha.2 i x y z p;have g:¬F b:=λu=>hF b u o j;exact⟨b,o,j,sr d e.1,by rw[Ka e d g];exact r,by rw[Ka e d g];exact m,by rw[Ka e d g];exact s⟩
theorem ZI {h h':Hp}{l:Sl}{xs:List (Int×Int×Int)}(ha:hO h l xs)(e:bK h h'):hO h' l xs:=MJ ha e λ_ h=>h.elim
theorem vn {h:Hp}{l:Sl}{xs:List (Int×Int×Int)}(ha:hO h l xs){i:Nat}{x y z:Int}(hx:xs[i]?=some (x,y,z)){K:Int->Int->Int->Prop}(hK:K x y z) :
 Ix l.a l.len (i:Int) 3 λa=>gP .i64 (a.add 0) h λu=>gP .i64 (a.add 1) h λv=>gP .i64 (a.add 2) h λw=>K u v w:=by
 obtain⟨b,o,g,m,e,d,j⟩:=ha.2 i x y z hx;have p:=(cX.1 hx).1;rw[g];refine ix O (by rw[ha.1];omega) ?_;rw[add_lit];refine my (by simpa using e) (my (by simpa using d) (my (by simpa using j) hK))
end Go.Vc
namespace Go.Proofs
open Go.Vc
abbrev _root_.R1:=@Wc Tryz.prog
abbrev _root_.R2:=Option Addr
def WX.c (a b c:Int)(d:Bool)(e:Hp)(f:aO):Prop:=R1 9 #[.I a,.I b,.I c,.bool d] [.one .b] e f
def Xq.c (a:Hp)(b:aO):Prop:=R1 13 #[] [.one .b] a b
def WM.c (a:R2)(b c d:Int)(e:Hp)(f:Int->Int->Hp->Prop):Prop:=R1 14 #[.pointer a,.I b,.I c,.I d] [.I,.I] e f
def YY.c (a:R2)(b:Int)(c:Hp)(d:Int->Int->Hp->Prop):Prop:=R1 16 #[.pointer a,.I b] [.I,.I] c d
def WL.c (a:R2)(b c:Int)(d:Hp)(e:aN):Prop:=R1 17 #[.pointer a,.I b,.I c] [.I] d e
def YZ.c (a:R2)(b:Hp)(c:Sl->Hp->Prop):Prop:=R1 20 #[.pointer a] [.one .s] b c
def W3.c (a:R2)(b:Int)(c:Hp)(d:Sl->Int->Hp->Prop):Prop:=R1 21 #[.pointer a,.I b] [.one .s,.I] c d
def YE.c (a:R2)(b:Hp)(c:Sl->Hp->Prop):Prop:=R1 22 #[.pointer a] [.one .s] b c
def Y1.c (a:R2)(b:Int)(c:Hp)(d:Int->Int->Int->Int->Int->Hp->Prop):Prop:=R1 23 #[.pointer a,.I b] [.agg [bN,bN,bN,bN],.I] c d
def YX.c (a:R2)(b:Hp)(c:Option Addr->Hp->Prop):Prop:=R1 24 #[.pointer a] [.one .p] b c
def Xs.c (a:R2)(b:Int)(c:Hp)(d:Int->Int->Hp->Prop):Prop:=R1 25 #[.pointer a,.I b] [.I,.I] c d
def Xb.c (a:R2)(b c:Int)(d:Hp)(e:aN):Prop:=R1 27 #[.pointer a,.I b,.I c] [.I] d e
def Xl.c (a:R2)(b c:Int)(d:Hp)(e:aN):Prop:=R1 29 #[.pointer a,.I b,.I c] [.I] d e
def XD.c (a b:Sl)(c:Hp)(d:aO):Prop:=R1 30 #[.slice a.a a.len a.cap,.slice b.a b.len b.cap] [.one .b] c d
def Z3.c (a:R2)(b:Hp)(c:Option Addr->Int->Hp->Prop):Prop:=R1 33 #[.pointer a] [.one .p,.I] b c
def YF.c (a:R2)(b c:Int)(d:Hp)(e:aN):Prop:=R1 34 #[.pointer a,.I b,.I c] [.I] d e
def YD.c (a:R2)(b:Hp)(c:Option Addr->Hp->Prop):Prop:=R1 35 #[.pointer a] [.one .p] b c
def Y8.c (a b:R2)(c:Hp)(d:Option Addr->Hp->Prop):Prop:=R1 36 #[.pointer a,.pointer b] [.one .p] c d
def Xe.c (a:Hp)(b:Option Addr->Hp->Prop):Prop:=R1 37 #[] [.one .p] a b
def Ws.c (a:R2)(b:Hp)(c:aO):Prop:=R1 42 #[.pointer a] [.one .b] b c
def Yu.c (a:R2)(b c d:Int)(e:Hp)(f:Int->Int->Hp->Prop):Prop:=R1 43 #[.pointer a,.I b,.I c,.I d] [.I,.I] e f
def Xi.c (a b c d e:Int)(f:Hp)(g:aN):Prop:=R1 44 #[.agg #[.I a,.I b,.I c,.I d,.I e]] [.I] f g
def XC.c (a b c d e:Int)(f:Hp)(g:Fv->Hp->Prop):Prop:=R1 45 #[.agg #[.I a,.I b,.I c,.I d,.I e]] [.one .fn] f g
def Zs.c (a:Int)(b:Hp)(c:aN):Prop:=R1 46 #[.I a] [.I] b c
def XT.c (a:R2)(b c d e f g:Int)(h:Hp)(i:aP):Prop:=R1 47 #[.pointer a,.agg #[.I b,.I c,.I d,.I e,.I f],.I g] [] h i
def W7.c (a:R2)(b:Int)(c:Hp)(d:aN):Prop:=R1 48 #[.pointer a,.I b] [.I] c d
def Yz.c (a:R2)(b:Int)(c:Hp)(d:Int->Int->Hp->Prop):Prop:=R1 49 #[.pointer a,.I b] [.I,.I] c d
def UO.c (a:Fv)(b:Hp)(c:Sl->Hp->Prop):Prop:=R1 50 #[.func (.func a.f) a.first a.captured] [.one .s] b c
def Z4.c (a:Option Nat)(b:Hp)(c:Fv->Hp->Prop):Prop:=R1 51 #[.map a] [.one .fn] b c
def W8.c (a:R2)(b c d e f:Int)(g:Hp)(h:aO):Prop:=R1 52 #[.pointer a,.agg #[.I b,.I c,.I d,.I e,.I f]] [.one .b] g h
def W5.c (a:R2)(b c d e f:Int)(g:Hp)(h:Sl->Hp->Prop):Prop:=R1 53 #[.pointer a,.agg #[.I b,.I c,.I d,.I e,.I f]] [.one .s] g h
def Ug.c (a:Sl)(b:Hp)(c:aP):Prop:=R1 54 #[.slice a.a a.len a.cap] [] b c
def VD.c (a:Sl)(b:Hp)(c:Sl->Hp->Prop):Prop:=R1 55 #[.slice a.a a.len a.cap] [.one .s] b c
def YL.c (a:R2)(b:Int)(c:Fv)(d:Hp)(e:Int->Int->Int->Int->Int->Bool->Hp->Prop):Prop:=R1 56 #[.pointer a,.I b,.func (.func c.f) c.first c.captured] [.agg [bN,bN,bN,bN,bN],.one .b] d e
def WZ.c (a:R2)(b:Hp)(c:aO):Prop:=R1 58 #[.pointer a] [.one .b] b c
def Ym.c (a:R2)(b:Hp)(c:Option Addr->Hp->Prop):Prop:=R1 61 #[.pointer a] [.one .p] b c
def X9.c (a:R2)(b c:Int)(d:Hp)(e:aN):Prop:=R1 62 #[.pointer a,.I b,.I c] [.I] d e
def WS.c (a:R2)(b c:Int)(d:Bool)(e:Hp)(f:aN):Prop:=R1 63 #[.pointer a,.I b,.I c,.bool d] [.I] e f
def Zw.c (a:R2)(b:Hp)(c:aO):Prop:=R1 65 #[.pointer a] [.one .b] b c
def H6.c (a:R2)(b:Hp)(c:Option Addr->Hp->Prop):Prop:=R1 66 #[.pointer a] [.one .p] b c
def Z0.c (a:Option Nat)(b:Hp)(c:Option Nat->Hp->Prop):Prop:=R1 67 #[.map a] [.one .m] b c
def Q0.c (a:Option Nat)(b:Hp)(c:Option Nat->Hp->Prop):Prop:=R1 68 #[.map a] [.one .m] b c
def WW.c (a b c d e f:Int)(g:Hp)(h:Option Addr->Hp->Prop):Prop:=R1 69 #[.agg #[.I a,.I b,.I c,.I d,.I e,.I f]] [.one .p] g h
def Zb.c (a:R2)(b c:Int)(d:Hp)(e:aN):Prop:=R1 70 #[.pointer a,.I b,.I c] [.I] d e
def YO.c (a:R2)(b c d e f:Int)(g:Hp)(h:aN):Prop:=R1 72 #[.pointer a,.I b,.agg #[.I c,.I d,.I e,.I f]] [.I] g h
def YU.c (a:R2)(b:Int)(c:Hp)(d:Bool->Int->Int->Int->Hp->Prop):Prop:=R1 73 #[.pointer a,.I b] [.one .b,.agg [bN,bN],.I] c d
def XB.c (a:R2)(b:Hp)(c:aN):Prop:=R1 79 #[.pointer a] [.I] b c
def XP.c (a:R2)(b c d e f:Int)(g:Hp)(h:Int->Int->Hp->Prop):Prop:=R1 81 #[.pointer a,.I b,.agg #[.I c,.I d,.I e,.I f]] [.I,.I] g h
def Yw.c (a:R2)(b:Int)(c:Hp)(d:Int->Int->Hp->Prop):Prop:=R1 83 #[.pointer a,.I b] [.I,.I] c d
def KJ.c (a:Fv)(b:Hp)(c:Sl->Hp->Prop):Prop:=R1 84 #[.func (.func a.f) a.first a.captured] [.one .s] b c
def ZQ.c (a:Fv)(b:Addr)(c:Hp)(d:aP):Prop:=R1 85 #[.func (.func a.f) a.first a.captured,.pointer (some b)] [] c d
def Xp.c (a:R2)(b c:Int)(d:Hp)(e:aN):Prop:=R1 88 #[.pointer a,.I b,.I c] [.I] d e
def YJ.c (a:R2)(b c:Int)(d:Hp)(e:aP):Prop:=R1 89 #[.pointer a,.I b,.I c] [] d e
def X8.c (a:R2)(b:Int)(c:Hp)(d:aN):Prop:=R1 90 #[.pointer a,.I b] [.I] c d
def Z8.c (a:Fv)(b:Addr)(c:Hp)(d:aP):Prop:=R1 91 #[.func (.func a.f) a.first a.captured,.pointer (some b)] [] c d
def Xk.c (a:R2)(b:Hp)(c:Int->Int->Int->Int->Int->Hp->Prop):Prop:=R1 92 #[.pointer a] [.agg [bN,bN,bN,bN,bN]] b c
def Wi.c (a:Sl)(b:Hp)(c:Sl->Hp->Prop):Prop:=R1 93 #[.slice a.a a.len a.cap] [.one .s] b c
def WD.c (a:Sl)(b:Hp)(c:Sl->Hp->Prop):Prop:=R1 98 #[.slice a.a a.len a.cap] [.one .s] b c
def XE.c (a:Int)(b:Hp)(c:Sl->Int->Hp->Prop):Prop:=R1 100 #[.I a] [.one .s,.I] b c
def Q9.c (a:Sl)(b c d e f:Int)(g:Hp)(h:Option Addr->Int->Hp->Prop):Prop:=R1 101 #[.slice a.a a.len a.cap,.agg #[.I b,.I c,.I d,.I e,.I f]] [.one .p,.I] g h
def XS.c (a:R2)(b:Int)(c:Hp)(d:aO):Prop:=R1 102 #[.pointer a,.I b] [.one .b] c d
def X7.c (a:R2)(b c d e:Int)(f:Hp)(g:Value->Hp->Prop):Prop:=R1 103 #[.pointer a,.agg #[.I b,.I c,.I d,.I e]] [.one .raw] f g
def Zc.c (a:R2)(b:Int)(c:Value)(d:Hp)(e:Value->Int->Int->Hp->Prop):Prop:=R1 104 #[.pointer a,.I b,c] [.one .raw,.agg [bN,bN]] d e
def Xx.c (a:R2)(b:Hp)(c:aN):Prop:=R1 108 #[.pointer a] [.I] b c
def Xt.c (a:R2)(b:Hp)(c:aO):Prop:=R1 109 #[.pointer a] [.one .b] b c
def W6.c (a:R2)(b:Hp)(c:aO):Prop:=R1 110 #[.pointer a] [.one .b] b c
def W9.c (a:R2)(b:Hp)(c:aO):Prop:=R1 111 #[.pointer a] [.one .b] b c
def YM.c (a:R2)(b:Int)(c:Hp)(d:aN):Prop:=R1 117 #[.pointer a,.I b] [.I] c d
def Wj.c (a:Sl)(b c:Bool)(d:Hp)(e:aO):Prop:=R1 130 #[.slice a.a a.len a.cap,.agg #[.bool b,.bool c]] [.one .b] d e
def YQ.c (a:R2)(b:Int)(c:Hp)(d:ByteArray->Hp->Prop):Prop:=R1 131 #[.pointer a,.I b] [.one .str] c d
def Xg.c (a b:Int)(c:Hp)(d:Int->Int->Int->Hp->Prop):Prop:=R1 137 #[.I a,.I b] [.agg [bN,bN,bN]] c d
def XF.c (a b:Int)(c:Hp)(d:aN):Prop:=R1 138 #[.I a,.I b] [.I] c d
def WH.c (a b c:Int)(d:Hp)(e:aN):Prop:=R1 139 #[.agg #[.I a,.I b,.I c]] [.I] d e
def Zm.c (a:Sl)(b:Hp)(c:aO):Prop:=R1 140 #[.slice a.a a.len a.cap] [.one .b] b c
def Qf.c (a b c d e:Int)(f:Hp)(g:aO):Prop:=R1 141 #[.agg #[.I a,.I b,.I c,.I d,.I e]] [.one .b] f g
def QE.c (a:Int)(b:Hp)(c:Option Addr->Int->Hp->Prop):Prop:=R1 142 #[.I a] [.one .p,.I] b c
def QC.c (a:Sl)(b:R2)(c:Int)(d:Hp)(e:Option Addr->Int->Hp->Prop):Prop:=R1 143 #[.slice a.a a.len a.cap,.pointer b,.I c] [.one .p,.I] d e
def QB.c (a:Sl)(b:Int)(c:Hp)(d:Option Addr->Int->Hp->Prop):Prop:=R1 144 #[.slice a.a a.len a.cap,.I b] [.one .p,.I] c d
def ZW.c (a:Sl)(b c:Int)(d:Hp)(e:Int->Int->Hp->Prop):Prop:=R1 145 #[.slice a.a a.len a.cap,.I b,.I c] [.I,.I] d e
def Zi.c (a:R2)(b:Int)(c:Hp)(d:aN):Prop:=R1 146 #[.pointer a,.I b] [.I] c d
def XW.c (a:R2)(b:Int)(c:Hp)(d:Int->Int->Hp->Prop):Prop:=R1 147 #[.pointer a,.I b] [.I,.I] c d
def Yr.c (a:R2)(b c d:Int)(e:Hp)(f:Value->Int->Int->Hp->Prop):Prop:=R1 148 #[.pointer a,.I b,.I c,.I d] [.one .raw,.agg [bN,bN]] e f
def XM.c (a:R2)(b:Int)(c:Hp)(d:Int->Int->Hp->Prop):Prop:=R1 149 #[.pointer a,.I b] [.I,.I] c d
def Wz.c (a:R2)(b:Int)(c:Hp)(d:Sl->Int->Hp->Prop):Prop:=R1 150 #[.pointer a,.I b] [.one .s,.I] c d
def X2.c (a:R2)(b c:Int)(d:Sl)(e:Hp)(f:aP):Prop:=R1 151 #[.pointer a,.I b,.I c,.slice d.a d.len d.cap] [] e f
def WB.c (a:R2)(b c:Int)(d:Hp)(e:Sl->Int->Hp->Prop):Prop:=R1 152 #[.pointer a,.I b,.I c] [.one .s,.I] d e
def XL.c (a:R2)(b:Int)(c:Hp)(d:aN):Prop:=R1 153 #[.pointer a,.I b] [.I] c d
def XO.c (a:R2)(b:Int)(c:Sl)(d:Hp)(e:aN):Prop:=R1 154 #[.pointer a,.I b,.slice c.a c.len c.cap] [.I] d e
def WJ.c (a:R2)(b c:Int)(d:Hp)(e:Int->Int->Hp->Prop):Prop:=R1 155 #[.pointer a,.I b,.I c] [.I,.I] d e
def Ze.c (a:R2)(b c:Int)(d:Hp)(e:Value->Int->Int->Hp->Prop):Prop:=R1 156 #[.pointer a,.I b,.I c] [.one .raw,.agg [bN,bN]] d e
def Yo.c (a:R2)(b c:Int)(d:Hp)(e:Sl->Int->Hp->Prop):Prop:=R1 157 #[.pointer a,.I b,.I c] [.one .s,.I] d e
def XQ.c (a:R2)(b:Hp)(c:aO):Prop:=R1 158 #[.pointer a] [.one .b] b c
def WV.c (a:R2)(b:Hp)(c:Sl->Hp->Prop):Prop:=R1 159 #[.pointer a] [.one .s] b c
def WR.c (a:R2)(b:Int)(c:Hp)(d:Value->Hp->Prop):Prop:=R1 160 #[.pointer a,.I b] [.one .raw] c d
def Wp.c (a:Sl)(b:Hp)(c:Sl->Hp->Prop):Prop:=R1 161 #[.slice a.a a.len a.cap] [.one .s] b c
def Zf.c (a:R2)(b c:Int)(d:Sl)(e:Hp)(f:aP):Prop:=R1 162 #[.pointer a,.I b,.agg #[.I c,.slice d.a d.len d.cap]] [] e f
def WG.c (a:R2)(b:Int)(c:Hp)(d:aN):Prop:=R1 163 #[.pointer a,.I b] [.I] c d
def Xz.c (a:R2)(b:Hp)(c:Sl->Hp->Prop):Prop:=R1 164 #[.pointer a] [.one .s] b c
def X0.c (a:R2)(b:Sl)(c:Hp)(d:aP):Prop:=R1 165 #[.pointer a,.slice b.a b.len b.cap] [] c d
def XH.c (a:R2)(b:Hp)(c:Sl->Hp->Prop):Prop:=R1 166 #[.pointer a] [.one .s] b c
def WK.c (a:R2)(b:Int)(c:Sl)(d:Hp)(e:aN):Prop:=R1 175 #[.pointer a,.I b,.slice c.a c.len c.cap] [.I] d e
def Qk.c (a b c:Int)(d:Hp)(e:aO):Prop:=R1 176 #[.agg #[.I a,.I b,.I c]] [.one .b] d e
def Zq.c (a b c:Int)(d:Hp)(e:aN):Prop:=R1 177 #[.agg #[.I a,.I b,.I c]] [.I] d e
def WF.c (a:R2)(b:Hp)(c:aO):Prop:=R1 178 #[.pointer a] [.one .b] b c
def Zp.c (a:R2)(b:Hp)(c:Int->Int->Hp->Prop):Prop:=R1 179 #[.pointer a] [.agg [bN,bN]] b c
def Xf.c (a:R2)(b:Hp)(c:aO):Prop:=R1 180 #[.pointer a] [.one .b] b c
def X6.c (a:R2)(b:Hp)(c:aN):Prop:=R1 182 #[.pointer a] [.I] b c
def XR.c (a:R2)(b:Hp)(c:aO):Prop:=R1 183 #[.pointer a] [.one .b] b c
def Wn.c (a:Sl)(b c:Bool)(d:Hp)(e:aN):Prop:=R1 190 #[.slice a.a a.len a.cap,.agg #[.bool b,.bool c]] [.I] d e
def Xj.c (a:R2)(b:Hp)(c:aO):Prop:=R1 191 #[.pointer a] [.one .b] b c
def Xr.c (a:R2)(b:Hp)(c:aO):Prop:=R1 192 #[.pointer a] [.one .b] b c
def ZX.c (a:Hp)(b:Option Addr->Hp->Prop):Prop:=R1 193 #[] [.one .p] a b
def Yn.c (a:R2)(b c d:Int)(e:Hp)(f:aN):Prop:=R1 195 #[.pointer a,.I b,.I c,.I d] [.I] e f
def QD.c (a:Int)(b:Hp)(c:Option Addr->Int->Hp->Prop):Prop:=R1 197 #[.I a] [.one .p,.I] b c
def Q7.c (a:Int)(b:Hp)(c:Option Addr->Int->Hp->Prop):Prop:=R1 198 #[.I a] [.one .p,.I] b c
def ZV.c (a b c:Int)(d:Hp)(e:Option Addr->Int->Hp->Prop):Prop:=R1 199 #[.agg #[.I a,.I b,.I c]] [.one .p,.I] d e
def ZG.c (a b:Int)(c:Hp)(d:Option Addr->Int->Hp->Prop):Prop:=R1 200 #[.I a,.I b] [.one .p,.I] c d
def ZU.c (a:Int)(b:Hp)(c:aN):Prop:=R1 201 #[.I a] [.I] b c
def Wl.c (a:Sl)(b:Fv)(c:Hp)(d:aN):Prop:=R1 202 #[.slice a.a a.len a.cap,.func (.func b.f) b.first b.captured] [.I] c d
def ZA.c (a b c:Int)(d e:Addr)(f:Hp)(g:aO):Prop:=R1 203 #[.agg #[.I a,.I b,.I c],.pointer (some d),.pointer (some e)] [.one .b] f g
def Xh.c (a:R2)(b:Int)(c:Hp)(d:Option Addr->Int->Hp->Prop):Prop:=R1 204 #[.pointer a,.I b] [.one .p,.I] c d
def XY.c (a:R2)(b:Int)(c:Hp)(d:aN):Prop:=R1 205 #[.pointer a,.I b] [.I] c d
def WN.c (a:R2)(b:Int)(c:Hp)(d:aN):Prop:=R1 206 #[.pointer a,.I b] [.I] c d
def WA.c (a:R2)(b:Hp)(c:Sl->Int->Hp->Prop):Prop:=R1 207 #[.pointer a] [.one .s,.I] b c
def W0.c (a:R2)(b:Int)(c:Hp)(d:Sl->Int->Hp->Prop):Prop:=R1 208 #[.pointer a,.I b] [.one .s,.I] c d
def Yp.c (a:R2)(b c d:Int)(e:Hp)(f:Int->Int->Hp->Prop):Prop:=R1 209 #[.pointer a,.I b,.I c,.I d] [.I,.I] e f
def Yq.c (a:R2)(b:Int)(c:Hp)(d:aN):Prop:=R1 210 #[.pointer a,.I b] [.I] c d
def WP.c (a:Sl)(b:Hp)(c:aP):Prop:=R1 211 #[.slice a.a a.len a.cap] [] b c
def WQ.c (a:R2)(b:Sl)(c:Hp)(d:aN):Prop:=R1 212 #[.pointer a,.slice b.a b.len b.cap] [.I] c d
def Yx.c (a:R2)(b:Int)(c:Hp)(d:Int->Int->Int->Hp->Prop):Prop:=R1 213 #[.pointer a,.I b] [.I,.I,.I] c d
def W4.c (a:R2)(b:Int)(c:Hp)(d:Sl->Hp->Prop):Prop:=R1 214 #[.pointer a,.I b] [.one .s] c d
def Xc.c (a:R2)(b:Fv)(c:Hp)(d:Sl->Hp->Prop):Prop:=R1 215 #[.pointer a,.func (.func b.f) b.first b.captured] [.one .s] c d
def Xm.c (a:R2)(b:Int)(c:Hp)(d:Sl->Hp->Prop):Prop:=R1 216 #[.pointer a,.I b] [.one .s] c d
def WE.c (a:R2)(b:Int)(c:Sl)(d:Hp)(e:Bool->Int->Hp->Prop):Prop:=R1 217 #[.pointer a,.I b,.slice c.a c.len c.cap] [.one .b,.I] d e
def Ye.c (a:R2)(b:Int)(c:Hp)(d:Sl->Hp->Prop):Prop:=R1 218 #[.pointer a,.I b] [.one .s] c d
def Xw.c (a:R2)(b c:Int)(d:Hp)(e:aN):Prop:=R1 219 #[.pointer a,.I b,.I c] [.I] d e
def Xo.c (a:R2)(b c:Int)(d:Hp)(e:aN):Prop:=R1 220 #[.pointer a,.I b,.I c] [.I] d e
def XU.c (a:R2)(b c:Int)(d:Hp)(e:aN):Prop:=R1 221 #[.pointer a,.I b,.I c] [.I] d e
def We.c (a:Sl)(b:Fv)(c:Hp)(d:Sl->Hp->Prop):Prop:=R1 222 #[.slice a.a a.len a.cap,.func (.func b.f) b.first b.captured] [.one .s] c d
def XJ.c (a b:Int)(c:R2)(d:Addr)(e:Hp)(f:aO):Prop:=R1 223 #[.agg #[.I a,.I b,.pointer c],.pointer (some d)] [.one .b] e f
def Yv.c (a:R2)(b:Hp)(c:aN):Prop:=R1 224 #[.pointer a] [.I] b c
def YI.c (a:R2)(b:Int)(c:Hp)(d:Sl->Hp->Prop):Prop:=R1 226 #[.pointer a,.I b] [.one .s] c d
def Xv.c (a:R2)(b c d:Int)(e:Sl)(f:Hp)(g:aN):Prop:=R1 230 #[.pointer a,.I b,.I c,.I d,.slice e.a e.len e.cap] [.I] f g
def X4.c (a:R2)(b:Int)(c:Hp)(d:Sl->Int->Hp->Prop):Prop:=R1 233 #[.pointer a,.I b] [.one .s,.I] c d
def Qb.c (a:Sl)(b:Int)(c:Hp)(d:aP):Prop:=R1 235 #[.slice a.a a.len a.cap,.I b] [] c d
def Ys.c (a:R2)(b c:Int)(d:Hp)(e:aN):Prop:=R1 236 #[.pointer a,.I b,.I c] [.I] d e
def Yb.c (a:R2)(b:Int)(c:Hp)(d:aO):Prop:=R1 237 #[.pointer a,.I b] [.one .b] c d
def Zd.c (a:R2)(b c:Int)(d:Hp)(e:aP):Prop:=R1 238 #[.pointer a,.I b,.I c] [] d e
def Yt.c (a:R2)(b:Sl)(c:Hp)(d:Sl->Int->Hp->Prop):Prop:=R1 241 #[.pointer a,.slice b.a b.len b.cap] [.one .s,.I] c d
def X3.c (a:R2)(b:Hp)(c:aO):Prop:=R1 242 #[.pointer a] [.one .b] b c
def YK.c (a:R2)(b:Int)(c:Hp)(d:aN):Prop:=R1 245 #[.pointer a,.I b] [.I] c d
def YR.c (a:R2)(b c:Int)(d:Hp)(e:aP):Prop:=R1 246 #[.pointer a,.I b,.I c] [] d e
def Zg.c (a b c:Int)(d:Hp)(e:Int->Int->Hp->Prop):Prop:=R1 247 #[.agg #[.I a,.I b,.I c]] [.I,.I] d e
def Y9.c (a:R2)(b:Int)(c:Hp)(d:Option Addr->Hp->Prop):Prop:=R1 248 #[.pointer a,.I b] [.one .p] c d
def Wk.c (a:Sl)(b:Fv)(c:Hp)(d:aN):Prop:=R1 249 #[.slice a.a a.len a.cap,.func (.func b.f) b.first b.captured] [.I] c d
def YH.c (a:R2)(b:Addr)(c:Hp)(d:aO):Prop:=R1 250 #[.pointer a,.pointer (some b)] [.one .b] c d
def YB.c (a:R2)(b:Int)(c:Hp)(d:aO):Prop:=R1 251 #[.pointer a,.I b] [.one .b] c d
def Yy.c (a:R2)(b:Hp)(c:Int->Bool->Hp->Prop):Prop:=R1 252 #[.pointer a] [.I,.one .b] b c
def Xy.c (a:R2)(b c:Int)(d:Hp)(e:Int->Int->Hp->Prop):Prop:=R1 253 #[.pointer a,.I b,.I c] [.I,.I] d e
def YA.c (a:R2)(b:Int)(c:Hp)(d:aO):Prop:=R1 254 #[.pointer a,.I b] [.one .b] c d
def Xu.c (a:R2)(b c:Int)(d:Hp)(e:aN):Prop:=R1 255 #[.pointer a,.I b,.I c] [.I] d e
def XV.c (a:R2)(b c d:Int)(e:Hp)(f:aN):Prop:=R1 256 #[.pointer a,.I b,.I c,.I d] [.I] e f
def Q8.c (a b c d:Int)(e:Hp)(f:Option Addr->Int->Hp->Prop):Prop:=R1 257 #[.I a,.agg #[.I b,.I c,.I d]] [.one .p,.I] e f
def Wb.c (a:Sl)(b:Int)(c:Fv)(d:Hp)(e:Int->Bool->Hp->Prop):Prop:=R1 258 #[.slice a.a a.len a.cap,.I b,.func (.func c.f) c.first c.captured] [.I,.one .b] d e
def Yl.c (a b:Int)(c:R2)(d:Int)(e:Hp)(f:aN):Prop:=R1 259 #[.agg #[.I a,.I b,.pointer c],.I d] [.I] e f
def Wf.c (a:Sl)(b:Int)(c:Sl)(d:Hp)(e:Sl->Hp->Prop):Prop:=R1 260 #[.slice a.a a.len a.cap,.I b,.slice c.a c.len c.cap] [.one .s] d e
def Xd.c (a:Sl)(b:Hp)(c:Sl->Hp->Prop):Prop:=R1 261 #[.slice a.a a.len a.cap] [.one .s] b c
def Ya.c (a:R2)(b:Int)(c:Hp)(d:Int->Int->Hp->Prop):Prop:=R1 262 #[.pointer a,.I b] [.I,.I] c d
def ZJ.c (a:Sl)(b:Fv)(c:Hp)(d:aP):Prop:=R1 263 #[.slice a.a a.len a.cap,.func (.func b.f) b.first b.captured] [] c d
def WU.c (a:R2)(b:Int)(c:Hp)(d:Bool->Int->Hp->Prop):Prop:=R1 265 #[.pointer a,.I b] [.one .b,.I] c d
def WY.c (a:R2)(b:Sl)(c:Hp)(d:Bool->Int->Hp->Prop):Prop:=R1 266 #[.pointer a,.slice b.a b.len b.cap] [.one .b,.I] c d
def XN.c (a:R2)(b c:Int)(d:Hp)(e:aP):Prop:=R1 267 #[.pointer a,.I b,.I c] [] d e
def Wh.c (a:Sl)(b:Fv)(c:Hp)(d:aN):Prop:=R1 268 #[.slice a.a a.len a.cap,.func (.func b.f) b.first b.captured] [.I] c d
def Ww.c (a:Sl)(b:Fv)(c:Hp)(d:aO):Prop:=R1 270 #[.slice a.a a.len a.cap,.func (.func b.f) b.first b.captured] [.one .b] c d
def Yd.c (a:Int)(b:Addr)(c:Hp)(d:aO):Prop:=R1 271 #[.I a,.pointer (some b)] [.one .b] c d
def Wo.c (a:Sl)(b:Int)(c:Hp)(d:aO):Prop:=R1 272 #[.slice a.a a.len a.cap,.I b] [.one .b] c d
def YN.c (a:R2)(b c:Int)(d:Hp)(e:Sl->Int->Hp->Prop):Prop:=R1 273 #[.pointer a,.I b,.I c] [.one .s,.I] d e
def YV.c (a:R2)(b c:Int)(d e:Bool)(f:Hp)(g:aP):Prop:=R1 274 #[.pointer a,.I b,.I c,.agg #[.bool d,.bool e]] [] f g
def Xn.c (a:R2)(b:Int)(c:Hp)(d:Int->Int->Bool->Hp->Prop):Prop:=R1 275 #[.pointer a,.I b] [.I,.I,.one .b] c d
def XA.c (a:R2)(b:Int)(c:Hp)(d:Option Addr->Hp->Prop):Prop:=R1 277 #[.pointer a,.I b] [.one .p] c d
def Zh.c (a:R2)(b:Int)(c:Hp)(d:aN):Prop:=R1 278 #[.pointer a,.I b] [.I] c d
def Wv.c (a:R2)(b:Hp)(c:Option Addr->Hp->Prop):Prop:=R1 279 #[.pointer a] [.one .p] b c
def Wy.c (a:R2)(b:Hp)(c:Option Addr->Hp->Prop):Prop:=R1 280 #[.pointer a] [.one .p] b c
def XG.c (a:R2)(b:Int)(c:Hp)(d:aN):Prop:=R1 281 #[.pointer a,.I b] [.I] c d
def WT.c (a b c d:Int)(e:Hp)(f:aO):Prop:=R1 282 #[.agg #[.I a,.I b],.agg #[.I c,.I d]] [.one .b] e f
def Za.c (a:R2)(b:Hp)(c:Int->Int->Hp->Prop):Prop:=R1 283 #[.pointer a] [.I,.I] b c
def XI.c (a:Sl)(b:Hp)(c:aN):Prop:=R1 284 #[.slice a.a a.len a.cap] [.I] b c
def Z2.c (a:Option Nat)(b:Hp)(c:Fv->Hp->Prop):Prop:=R1 285 #[.map a] [.one .fn] b c
def YP.c (a:R2)(b c:Int)(d:Hp)(e:aN):Prop:=R1 286 #[.pointer a,.I b,.I c] [.I] d e
def XZ.c (a:R2)(b:Int)(c:Hp)(d:aN):Prop:=R1 287 #[.pointer a,.I b] [.I] c d
def Q1.c (a:Sl)(b:Int)(c:Hp)(d:aP):Prop:=R1 289 #[.slice a.a a.len a.cap,.I b] [] c d
def XX.c (a:R2)(b:Int)(c:Hp)(d:Int->Int->Hp->Prop):Prop:=R1 290 #[.pointer a,.I b] [.I,.I] c d
def X5.c (a:R2)(b:Int)(c:Hp)(d:Bool->Int->Hp->Prop):Prop:=R1 292 #[.pointer a,.I b] [.one .b,.I] c d
def YT.c (a:R2)(b c:Int)(d:Hp)(e:aP):Prop:=R1 293 #[.pointer a,.I b,.I c] [] d e
def WO.c (a:Sl)(b:Fv)(c:Hp)(d:aN):Prop:=R1 302 #[.slice a.a a.len a.cap,.func (.func b.f) b.first b.captured] [.I] c d
def WC.c (a:Sl)(b:Int)(c:Hp)(d:aN):Prop:=R1 303 #[.slice a.a a.len a.cap,.I b] [.I] c d
def XK.c (a:R2)(b:Int)(c:Hp)(d:Int->Int->Hp->Prop):Prop:=R1 304 #[.pointer a,.I b] [.I,.I] c d
def YS.c (a:R2)(b:Int)(c:Sl)(d:Hp)(e:aP):Prop:=R1 305 #[.pointer a,.I b,.slice c.a c.len c.cap] [] d e
def Yc.c (a:R2)(b:Int)(c:Hp)(d:aN):Prop:=R1 306 #[.pointer a,.I b] [.I] c d
def QN.c (a:Fv)(b:Addr)(c:Hp)(d:aP):Prop:=R1 307 #[.func (.func a.f) a.first a.captured,.pointer (some b)] [] c d
def Wg.c (a:Sl)(b:Fv)(c:Hp)(d:aO):Prop:=R1 308 #[.slice a.a a.len a.cap,.func (.func b.f) b.first b.captured] [.one .b] c d
def Yh.c (a b:Bool)(c:Hp)(d:aO):Prop:=R1 309 #[.agg #[.bool a,.bool b]] [.one .b] c d
def Wm.c (a:Sl)(b:Fv)(c:Hp)(d:aN):Prop:=R1 322 #[.slice a.a a.len a.cap,.func (.func b.f) b.first b.captured] [.I] c d
def ZF.c (a:Int)(b:Hp)(c:ByteArray->Hp->Prop):Prop:=R1 346 #[.agg #[.I a]] [.one .str] b c
def Zu.c (a:Int)(b:Hp)(c:ByteArray->Hp->Prop):Prop:=R1 347 #[.agg #[.I a]] [.one .str] b c
def ZC.c (a:Int)(b:Hp)(c:ByteArray->Hp->Prop):Prop:=R1 348 #[.agg #[.I a]] [.one .str] b c
def Zt.c (a:Hp)(b:ByteArray->Hp->Prop):Prop:=R1 349 #[.agg #[]] [.one .str] a b
def YG.c (a b:Int)(c:Hp)(d:ByteArray->Hp->Prop):Prop:=R1 350 #[.agg #[.I a,.I b]] [.one .str] c d
def ZD.c (a:Hp)(b:ByteArray->Hp->Prop):Prop:=R1 351 #[.agg #[]] [.one .str] a b
def Y5.c (a b:Int)(c:Hp)(d:ByteArray->Hp->Prop):Prop:=R1 352 #[.agg #[.I a,.I b]] [.one .str] c d
def ZB.c (a b:Int)(c:Hp)(d:ByteArray->Hp->Prop):Prop:=R1 353 #[.agg #[.I a,.I b]] [.one .str] c d
def ZR.c (a b:Int)(c:Hp)(d:ByteArray->Hp->Prop):Prop:=R1 354 #[.agg #[.I a,.I b]] [.one .str] c d
def ZH.c (a:Hp)(b:ByteArray->Hp->Prop):Prop:=R1 355 #[.agg #[]] [.one .str] a b
def ZE.c (a b:Int)(c:Hp)(d:ByteArray->Hp->Prop):Prop:=R1 356 #[.agg #[.I a,.I b]] [.one .str] c d
set_option maxRecDepth 100000
def XR.h:Hn:=.q .o1 (.q (.cS (.seq [.op,.op,.op,.cO true 5 (RI.ops 5),.op])) .l)
abbrev _root_.aQ(a:Addr)(n:Nat)(h:Hp)(K:Int->Prop):Prop:=gP .i64 (a.add n) h K
abbrev _root_.aR(a:Addr)(n:Nat)(v:Value)(h:Hp)(K:Hp->Prop):Prop:=eP (a.add n) v h K
abbrev _root_.aX(a:Addr)(n:Nat)(h:Hp)(K:Sl->Prop):Prop:=ja (a.add n) h K
abbrev _root_.aY(a:Addr)(n:Nat)(h:Hp)(K:Option Addr->Prop):Prop:=fQ (a.add n) h K
abbrev _root_.aZ(a:Addr)(n:Nat)(h:Hp)(K:Bool->Prop):Prop:=kR (a.add n) h K
abbrev _root_.bA(a:Addr)(n:Nat)(h:Hp)(K:Value->Prop):Prop:=vI (a.add n) h K
abbrev _root_.bB(a:Addr)(n:Nat)(h:Hp)(K:Option Nat->Prop):Prop:=kF (a.add n) h K
abbrev _root_.bC(a:Addr)(n:Nat)(h:Hp)(K:ByteArray->Prop):Prop:=xY (a.add n) h K
abbrev _root_.bD(p:Option Addr)(n:Nat)(h:Hp)(K:Int->Prop):Prop:=bT p λa=>gP .i64 (a.add n) h K
abbrev _root_.bE(p:Option Addr)(n:Nat)(h:Hp)(K:Sl->Prop):Prop:=bT p λa=>ja (a.add n) h K
abbrev _root_.bF(p:Option Addr)(n:Nat)(h:Hp)(K:Option Addr->Prop):Prop:=bT p λa=>fQ (a.add n) h K
abbrev _root_.bG(p:Option Addr)(n:Nat)(h:Hp)(K:Bool->Prop):Prop:=bT p λa=>kR (a.add n) h K
abbrev _root_.bH(p:Option Addr)(n:Nat)(h:Hp)(K:Value->Prop):Prop:=bT p λa=>vI (a.add n) h K
abbrev _root_.bI(p:Option Addr)(n:Nat)(h:Hp)(K:Option Nat->Prop):Prop:=bT p λa=>kF (a.add n) h K
abbrev _root_.bJ(p:Option Addr)(n:Nat)(h:Hp)(K:ByteArray->Prop):Prop:=bT p λa=>xY (a.add n) h K
abbrev _root_.aS(S:Hp->Prop)(a:Addr)(n:Nat)(K:Int->Prop):Prop:=fV S bN (a.add n) K
abbrev _root_.aT(S:Hp->Prop)(a:Addr)(n:Nat)(K:Sl->Prop):Prop:=fV S .s (a.add n) K
abbrev _root_.aU(S:Hp->Prop)(a:Addr)(n:Nat)(K:Option Addr->Prop):Prop:=fV S .p (a.add n) K
abbrev _root_.bL(e:Int)(K:Int->Prop):Prop:=Ar .i64 e K
abbrev _root_.bM(a:Addr)(h:Hp)(K:Int->Prop):Prop:=gP .i64 a h K
abbrev _root_.aV(c:Array Value)(t:Nat)(h:Hp)(K:Addr->Hp->Prop):Prop:=Nw (.cells c t (0,0)) h K
def XR.v (a:R2)(b:Hp)(c:aO):Prop:=bR (λd e=>c d e) λf=>If (!a.isNone) (bD a 0 b λh=>f (decide (h>0)) b) (f false b)
theorem XR.o {a b c}(d:XR.v a b c):XR.c a b c:=Wa Tryz.func183 (x:=XR.h) (R0 d)
def QD.h:Hn:=.q .o2 (.q (.q (.cS (.seq [.op,.op,.op,.cO false 2 [.op,.op]])) .aJ) (.q .o4 (.q (.q .o1 (.k (.loop [(5,.I)] (.q (.q .o3 (.c .l .l)) (.q (.k (.o 11)) .o3))))) (.q .o3 .l))))
def QD.v (a:Int)(b:Hp)(c:Option Addr->Int->Hp->Prop):Prop:=bR (λd e=>If d (c none 1 e) (Nw (.cells #[.I a,.slice none 0 0] 269 (0,0)) e λf g=>YC [bN] (λh=>h 1 g) λi (j:Int) k=>If (j<=a) (bT (some f) λl=>ja (l.add 1) k λm=>Nw (.map #[] 0) k λn o=>Nw (.cells #[.map (some n.block)] 72 (0,0)) o λp q=>App m 1 8 72 [.map none] ⟨some p,1,1⟩ q λr s=>bT (some f) λt=>eP (t.add 1) (.slice r.a r.len r.cap) s λu=>Ar .i64 (j*2) λv=>i v u) (c (some f) 0 k))) λw=>If (a<1) (w true b) (w (decide (a>1024)) b)
theorem QD.o {a b c}(d:QD.v a b c):QD.c a b c:=Wa Tryz.func197 (x:=QD.h) (R0 d)
def XU.h:Hn:=.q .o1 (.q (.q .o5 (.q .o2 .aJ)) (.q (.q .o2 (.k (.loop [(8,.I)] (.q (.q .o5 (.c .l .l)) (.q (.k (.q .o3 .aK)) .o3))))) (.q .o4 .aM)))
def XU.v (a:R2)(b c:Int)(d:Hp)(e:aN):Prop:=Ys.c a b c d λf g=>If (f != 0) (e f g) (YC [bN] (λh=>h b g) λi (j:Int) k=>bL (b+c) λl=>If (j<l) (Yb.c a j k λm n=>If m (e 9 n) (bL (j+1) λo=>i o n)) (XN.c a b c k λp=>e 0 p))
theorem XU.o {a b c d e}(f:XU.v a b c d e):XU.c a b c d e:=Wa Tryz.func221 (x:=XU.h) (R0 f)
def Ys.h:Hn:=.q .o1 (.q (.k (.q .o4 (.c .aM (.q (.cS (.seq [.op,.op,.op,.cO false 2 [.op,.op],.op,.cO false 6 (RI.ops 6),.op,.cO false 8 (RI.ops 8),.op])) .aK)))) .aM)
def Ys.v (a:R2)(b c:Int)(d:Hp)(e:aN):Prop:=XR.c a d λf g=>If (!f) (e 5 g) (bR (λh i=>bR (λj k=>bR (λl m=>If l (e 1 m) (e 0 m)) λn=>If j (n true k) (bD a 0 k λp=>bL (p-b) λq=>n (decide (c>q)) k)) λr=>If h (r true i) (bD a 0 i λt=>r (decide (b>t)) i)) λu=>If (b<0) (u true g) (u (decide (c<1)) g))
theorem Ys.o {a b c d e}(f:Ys.v a b c d e):Ys.c a b c d e:=Wa Tryz.func236 (x:=Ys.h) (R0 f)
def Yb.h:Hn:=.q .o1 (.q (.q (.cS (.seq [.op,.op,.op,.op,.cO false 2 [.op,.op],.op,.cO false 6 (RI.ops 6)])) .aK) (.q .gG .aL))
def Yb.v (a:R2)(b:Int)(c:Hp)(d:aO):Prop:=XR.c a c λe f=>bR (λg h=>bR (λi j=>If i (d false j) (Xn.c a b j λk l m n=>d m n)) λo=>If g (o true h) (bD a 0 h λq=>o (decide (b≥q)) h)) λr=>If (!e) (r true f) (r (decide (b<0)) f)
theorem Yb.o {a b c d}(e:Yb.v a b c d):Yb.c a b c d:=Wa Tryz.func237 (x:=Yb.h) (R0 e)
def Zd.h:Hn:=.q .o2 (.k (.loop [(6,.I)] (.q (.q .o5 (.c .l .l)) (.k (.q .gG (.q .o9 (.q .o5 (.q .o6 (.q (.q .o4 (.q .o3 (.c .o6 .l))) .o2)))))))))
def Zd.v (a:R2)(b c:Int)(d:Hp)(e:aP):Prop:=YC [bN] (λf=>f b d) λg (h:Int) i=>bL (b+c) λj=>If (h<j) (Xn.c a h i λk l m n=>bE a 1 n λp=>Ix p.a p.len k 1 λq=>kF q n λr=>kY .i64 .b r l n λs=>Nn k<|bL ((1:Int)*2^(min k.toNat IntKind.i64.bits)) λt=>bL (l+t) λu=>bL (h-l) λv=>XN.c a l v s λw=>bL (b+c) λx=>If (u>x) (bL (u-x) λy=>XN.c a x y w λz=>g u z) (g u w)) (e i)
theorem Zd.o {a b c d e}(f:Zd.v a b c d e):Zd.c a b c d e:=Wa Tryz.func238 (x:=Zd.h) (R0 f)
def Xy.h:Hn:=.q .o2 (.q (.k (.q .o4 (.c .aL (.q (.cS (.seq [.op,.op,.op,.cO false 2 [.op,.op],.op,.cO false 2 [.op,.op],.op,.cO false 2 [.op,.op],.op,.cO false 5 (RI.ops 5),.op])) .aJ)))) (.q (.q .o6 (.k (.loop [(42,.I)] (.q .o1 (.q (.c .l .l) (.q (.k (.q .o5 (.q (.cS (.seq [.op,.op,.op,.op,.op,.op,.op,.cO true 3 (RI.ops 3)])) (.c (.q .o5 (.q .o4 (.q .o3 .l))) .l)))) .o2)))))) .aL))
def Xy.v (a:R2)(b c:Int)(d:Hp)(e:Int->Int->Hp->Prop):Prop:=XR.c a d λf g=>If (!f) (e 0 5 g) (bR (λh i=>bR (λj k=>bR (λl m=>bR (λn o=>If n (e 0 1 o) (bE a 1 o λq=>YC [bN] (λr=>r 0 o) λs (t:Int) u=>If (t<((q.len:Nat):Int)) (Ix q.a q.len t 1 λv=>kF v u λw=>Nn t<|bL ((1:Int)*2^(min t.toNat IntKind.i64.bits)) λx=>bR (λy z=>If y (Z2.c w z λaa ab=>KJ.c aa ab λac ad=>XI.c ac ad λae af=>Zd.c a ae b af λag=>e ae 0 ag) (bL (t+1) λah=>s ah z)) λai=>If (x≥(if c>b then c else b)) (pa .i64 .b w u λaj=>ai (decide (aj>0)) u) (ai false u)) (e 0 6 u))) λak=>If l (ak true m) (bL (c-1) λal=>ak ((bits .and .i64 c al) != 0) m)) λam=>If j (am true k) (am (decide (c>1024)) k)) λan=>If h (an true i) (an (decide (c<1)) i)) λao=>If (b<1) (ao true g) (ao (decide (b>1024)) g))
theorem Xy.o {a b c d e}(f:Xy.v a b c d e):Xy.c a b c d e:=Wa Tryz.func253 (x:=Xy.h) (R0 f)
def XN.h:Hn:=.k (.loop [(1,.I),(2,.I)] (.q (.q .o2 (.c .l .l)) (.k (.q .o1 (.q (.k (.loop [(6,.I)] (.q (.q (.cS (.seq [.op,.op,.op,.op,.op,.op,.op,.op,.op,.op,.cO true 5 (RI.ops 5)])) (.c .l .l)) (.k .o3)))) (.q .o4 (.oq 10)))))))
def XN.v (a:R2)(b c:Int)(d:Hp)(e:aP):Prop:=YC [bN,bN] (λf=>f b c d) λg (h:Int) (i:Int) j=>If (i>0) (YC [bN] (λk=>k 0 j) λl (m:Int) n=>bL (m+1) λo=>Nn o <| bL (m+1) λp=>Nn p<|bL ((h.fdiv (2^(min o.toNat IntKind.i64.bits)))*2^(min p.toNat IntKind.i64.bits)) λq=>bR (λr s=>If r (bL (m+1) λt=>l t s) (YT.c a m h s λu=>Nn m<|bL ((1:Int)*2^(min m.toNat IntKind.i64.bits)) λv=>bL (h+v) λw=>Nn m<|bL ((1:Int)*2^(min m.toNat IntKind.i64.bits)) λx=>bL (i-x) λy=>g w y u)) λz=>If (q==h) (bL (m+1) λaa=>Nn aa<|bL ((1:Int)*2^(min aa.toNat IntKind.i64.bits)) λab=>z (decide (ab<=i)) n) (z false n)) (e j)
theorem XN.o {a b c d e}(f:XN.v a b c d e):XN.c a b c d e:=Wa Tryz.func267 (x:=XN.h) (R0 f)
def Xn.h:Hn:=.q .o3 (.q (.q .o6 (.k (.loop [(15,.I)] (.q .o1 (.q (.c .l .l) (.q (.k (.q .o5 (.q .o6 (.q .o3 (.c (.q .o5 .l) .l))))) .o2)))))) (.q .o3 .l))
def Xn.v (a:R2)(b:Int)(c:Hp)(d:Int->Int->Bool->Hp->Prop):Prop:=bE a 1 c λf=>YC [bN] (λg=>g 0 c) λh (i:Int) j=>If (i<((f.len:Nat):Int)) (Ix f.a f.len i 1 λk=>kF k j λl=>Nn i <| Nn i<|bL ((b.fdiv (2^(min i.toNat IntKind.i64.bits)))*2^(min i.toNat IntKind.i64.bits)) λm=>Lk .i64 .b l m j λn=>If (n.getD false) (d i m true j) (bL (i+1) λo=>h o j)) (d 0 0 false j)
theorem Xn.o {a b c d}(e:Xn.v a b c d):Xn.c a b c d:=Wa Tryz.func275 (x:=Xn.h) (R0 e)
def YT.h:Hn:=.q (.k (.loop [(1,.I),(2,.I)] (.q (.q (.cS (.quiet [.op,.op,.op,.op,.op,.op,.op,.op,.op,.cO true 12 (RI.ops 12)])) (.c .l .l)) (.k (.q (.cS (.tail 11 (RI.ops 11) [.op])) (.q .o8 .o3)))))) .o9
def YT.v (a:R2)(b c:Int)(d:Hp)(e:aP):Prop:=YC [bN,bN] (λf=>f b c d) λg (h:Int) (i:Int) j=>bL (h+1) λk=>bE a 1 j λm=>bR (λn o=>If n (bE a 1 o λq=>Ix q.a q.len h 1 λr=>kF r o λs=>Nn h<|bL ((1:Int)*2^(min h.toNat IntKind.i64.bits)) λt=>kY .i64 .b s (bits .xor .i64 i t) o λu=>bL (h+1) λv=>Nn v <| bL (h+1) λw=>Nn w<|bL ((i.fdiv (2^(min v.toNat IntKind.i64.bits)))*2^(min w.toNat IntKind.i64.bits)) λx=>bL (h+1) λy=>g y x u) (bE a 1 o λaa=>Ix aa.a aa.len h 1 λab=>kF ab o λac=>j2 .i64 .b ac i true o λad=>e ad)) λae=>If (k<((m.len:Nat):Int)) (bE a 1 j λag=>Ix ag.a ag.len h 1 λah=>kF ah j λai=>Nn h<|bL ((1:Int)*2^(min h.toNat IntKind.i64.bits)) λaj=>Lk .i64 .b ai (bits .xor .i64 i aj) j λak=>ae (ak.getD false) j) (ae false j)
theorem YT.o {a b c d e}(f:YT.v a b c d e):YT.c a b c d e:=Wa Tryz.func293 (x:=YT.h) (R0 f)
end Go.Proofs
namespace Go.Vc
open Go
variable {ro:Option Nat}{m0:Nat}
def Fw (ro:Option Nat):Fence:={Fence.wide with round:=ro}
theorem Ch {P:Program}{f:Nat}{args:Array Value}{w:World}{R:Ending->World->Prop}(h:Calls P f args w R):CallsIn (Fw ro) m0 P f args w R:=by
 cases ro with
 | none=>exact callsIn_wide.2 h
 | some l=>exact CallsIn.inRound l (callsIn_wide.2 h)
theorem NW {P:Program}{ρ:Operand->Value}{o:Oper}{w:World}{K:Value->Hp->Prop}(h:Qy P (execOp ρ o) w K):∀c,o.op≠.defer c:=by
 intro c hc;have key:∀(s:Sem Deferred) r,((do pure (Next.defer (←s)):Sem Next).run P w=.ok r w->∃d,r=.defer d)/\(∀w',(do pure (Next.defer (←s)):Sem Next).run P w=.ok r w'->∃d,r=.defer d):=by
  intro s r;have:∀w',(do pure (Next.defer (←s)):Sem Next).run P w=.ok r w'->∃d,r=.defer d:=by
   intro w' hr;rw[Sem.run_bind]at hr;cases hs:s.run P w with
   | ok d w2=>
    rw[hs]at hr;simp at hr;exact⟨d,hr.1.symm⟩
   | halt x w2=>
    rw[hs]at hr;simp at hr
  exact⟨this w,this⟩
 have a:execOp ρ o=(do pure (Next.defer (←resolve ρ c o.type)):Sem Next):=by unfold execOp;rw[hc]
 rw[a]at h;rcases h with⟨v,w',hr,_⟩|⟨w',hr,_⟩|⟨f,args,rs,R,hr,_⟩
 ·obtain⟨d,hd⟩:=(key _ _).2 w' hr;cases hd
 ·obtain⟨d,hd⟩:=(key _ _).2 w' hr;cases hd
 ·obtain⟨d,hd⟩:=(key _ _).2 w hr;cases hd
theorem Qy.uponIn {P:Program}{o:Oper}{a:Act}{w:World}{K:Value->Hp->Prop}{next:Act->World->Prop}{Q:Exit->Act->World->Prop}
 (h:Qy P (execOp a.eval o) w K) (hn:∀v w',Xa w w'->K v w'.heap->next (a.put o.dst v) w'):o.wpIn (Fw ro) m0 P a w next Q:=by
 refine⟨λ_ _=>trivial,?_⟩;rw[Oper.semAt_eq _ _ _ (NW h)];rcases h with⟨v,w',hr,b,hK⟩|⟨w',hr,b,hK⟩|⟨f,args,rs,R,hr,hc,hK⟩
 ·rw[hr];exact hn _ _ b hK
 ·rw[hr];exact hn _ _ b hK
 ·rw[hr];refine⟨λh=>by simp[Fw,Fence.wide]at h,Ch ((hc w rfl).mono λe w' ⟨b,vs,d,g⟩=>?_)⟩;subst d;exact hn _ _ b (hK _ _ g)
theorem Dy {P:Program}{N:Nat}{ops:Array Oper}{Q:Exit->Act->World->Prop}{tail:List Oper}{w:World}:∀{os:List Oper} {ρ:Env} {a:Act},VY N ops os ρ=true->Fits N ρ a →
 (∀a',Fits N (ρ.dR (os.filterMap (·.dst))) a'->wpListIn (Fw ro) m0 P ops Q tail a' w)->wpListIn (Fw ro) m0 P ops Q (os++tail) a w
 | [],ρ,a,_,hf,h=>h a (hf.weaken (G4 _ _))
 | o::os,ρ,a,hs,hf,h=>by
  simp only[VY,zE]at hs;obtain⟨h1,h2,h3⟩:=hs;have m:=Kr hf h1;simp only[kG,wpListIn,m];refine⟨λ_ _=>trivial,?_⟩;refine Dy h3 (hf.put h2 _) λa' j=>h a' (j.weaken λi v b=>?_);simp only[Env.dR]at b ⊢;cases hc:(List.filterMap (·.dst) (o::os)).contains i
  ·rw[hc]at b;simp only[cond_false]at b;have e:(List.filterMap (·.dst) os).contains i=false:=by
    cases hd:o.dst<;>simp_all
   have g:∀d,o.dst=some d->i≠d:=by
    intro d hd;simp_all
   rw[e];simp only[cond_false];cases hd:o.dst with
   | none=>exact b
   | some d=>
    have:=g d hd;simp only[Env.gV,Env.put];have:Nat.beq i d=false:=by
     cases hb:Nat.beq i d
     ·rfl
     ·exact absurd (zo hb) this
    rw[this];exact b
  ·rw[hc]at b;cases b
theorem Kn {P:Program}{N:Nat}{ops:Array Oper}{Q:Exit->Act->World->Prop}:∀(n:Nat) {hs:List RI} {os:List Oper} {tail:List Oper} {ρ:Env} {a:Act} {w:World} {K:Env->Hp->Prop},
 eA P N ops n hs os ρ w.heap K->Fits N ρ a->(∀ρ' a' w',Fits N ρ' a'->Xa w w'->Vi os ρ ρ'->K ρ' w'.heap->wpListIn (Fw ro) m0 P ops Q tail a' w')->wpListIn (Fw ro) m0 P ops Q (os++tail) a w
 | 0,_,_,_,_,_,_,_,h,_,_=>(by simp only[eA]at h)
 | n+1,[],[],tail,ρ,a,w,K,h,hf,hK=>by
  simp only[eA]at h;exact hK ρ a w hf (.refl _) (λ_ _ _ h=>h) h
 | n+1,[],o::os,tail,ρ,a,w,K,h,hf,hK=>(by simp only[eA]at h)
 | n+1,.op::hs,[],tail,ρ,a,w,K,h,hf,hK=>(by simp only[eA]at h)
 | n+1,.op::hs,o::os,tail,ρ,a,w,K,h,hf,hK=>by
  simp only[eA]at h;rw[Wu]at h;obtain⟨hc,h⟩:=h;simp only[zE]at hc;have S:=Y6 hf hc.1;simp only[kG,wpListIn,S,zP];refine Qy.uponIn (V4 hf.ev o h) λv w' D s=>?_;exact Kn n s (hf.put hc.2 v) λρ' a' A g u E j=>hK ρ' a' A g (D.trans u) E.cons j
 | n+1,.it ki c::hs,[],tail,ρ,a,w,K,h,hf,hK=>(by simp only[eA]at h)
 | n+1,.it ki c::hs,o::os,tail,ρ,a,w,K,h,hf,hK=>by
  simp only[eA]at h;rw[Wu]at h;obtain⟨hc,h⟩:=h;simp only[zE]at hc;have S:=Y6 hf hc.1;simp only[kG,wpListIn,S,zP];refine Qy.uponIn (Bl hf.ev o h) λv w' D s=>?_;exact Kn n s (hf.put hc.2 v) λρ' a' A g u E j=>hK ρ' a' A g (D.trans u) E.cons j
 | n+1,.cO and m inner::hs,os,tail,ρ,a,w,K,h,hf,hK=>by
  simp only[eA]at h;split at h
  case h_2=>exact h.elim
  rename_i pk rest hdrop;split at h
  case h_2=>exact h.elim
  rename_i c x y d hop hd;split at h
  case h_2=>exact h.elim
  rename_i b hb;rw[Wu]at h;obtain⟨hc,J,hJ,h⟩:=h;simp only[zE]at hc;obtain⟨R,L,W,X,F⟩:=hc;have ad:pC N pk.dst=true:=by rw[hd];exact R
  have Z:os++tail=os.take m++(pk::rest++tail):=by
   rw[←hdrop,←jW,mY]
  rw[Z];have p:∀(r b':Bool) (z:Operand) a' w',b=b'->(bif b' then x else y)=z->Fits N (ρ.dR ((os.take m).filterMap (·.dst))) a'->Xa w w'->J r w'.heap->Region.wanted pk (yielded ops a'.tmps)=true →
   a'.eval (.tmp c)=.bool b'->a'.eval z=.bool r->wpListIn (Fw ro) m0 P ops Q (pk::rest++tail) a' w':=by
   intro r b' z a' w' e ez g D M S C hez;simp only[kG,wpListIn,S,zP];refine Qy.uponIn (K:=λv Y=>v=.bool r/\Y=w'.heap) (Bb hop C (by rw[ez];exact hez) ⟨rfl,rfl⟩) λv A u s=>?_;obtain⟨rfl,hh⟩:=s;have aa:=g.put (d:=some d) R (.bool r);rw[hd];have G:=hJ _ _ M;rw[←hh]at G;exact Kn n G aa λρ' ab w3 U V E j=>hK ρ' ab w3 U ((D.trans u).trans V) (Vi.cO hd hdrop E) j
  have run:∀(b':Bool) (z:Operand),b=b'->(bif b' then x else y)=z →
   eA P N ops n inner (os.take m) (ρ.put c (.bool b')) w.heap (λρ' Y=>fJ (HB ops pk ρ'&&qb ρ' c b') (VX ρ' z λr=>J r Y))->wpListIn (Fw ro) m0 P ops Q (os.take m++(pk::rest++tail)) a w:=by
   intro b' z e ez hseg;refine Kn n hseg (hf.lit hb e) λρ' a' w' g D E s=>?_;rw[Wu]at s;simp only[zE]at s;obtain⟨⟨hg,ac⟩,s⟩:=s;obtain⟨r,hr,M⟩:=Q2 s;exact p r b' z a' w' e ez (g.tf hb e E) D M (Y6 g hg) (g.ev _ _ (V5 ac)) (g.ev _ _ hr)
  have B:∀(b':Bool),b=b'->b' = !and->J (!and) w.heap->wpListIn (Fw ro) m0 P ops Q (os.take m++(pk::rest++tail)) a w:=by
   intro b' e eb M;subst eb;refine Dy F (hf.lit hb e) λa' g=>?_;have H:Fits N (ρ.dR ((os.take m).filterMap (·.dst))) a':=g.tf (ρ':=(ρ.put c (.bool (!and))).dR ((os.take m).filterMap (·.dst))) hb e (λi hi v hv=>by simp only[Env.dR,hi];exact hv);have C:=g.ev (.tmp c) _ (V5 X);refine p (!and) (!and) (bif (!and)then x else y) a' w e rfl H (.refl _) M (Y6 H W) C ?_;refine xy ?_ _ (λv=>rfl);cases and<;>exact L
  cases and
  ·simp only[cond_false]at h;cases b
   ·exact run false y rfl rfl (h.f rfl)
   ·exact B true rfl rfl (h.t rfl)
  ·simp only[cond_true]at h;cases b
   ·exact B false rfl rfl (h.f rfl)
   ·exact run true x rfl rfl (h.t rfl)
end Go.Vc
namespace Go.Vc
open Go
variable {ro:Option Nat}{m0:Nat}{P:Program}
def Act.wd (a:Act)(ds:List Deferred):Act:={a with defers:=ds}
theorem G3 (a:Act)(ds:List Deferred)(d:Option Nat)(v:Value):(Act.wd a ds).put d v=Act.wd (a.put d v) ds:=by cases d<;>rfl
theorem yX (a:Act)(d e:List Deferred):Act.wd (Act.wd a d) e=Act.wd a e:=rfl
theorem Vy {a:Act}{ds:List Deferred}(h:a.defers=ds):Act.wd a ds=a:=by subst h;rfl
def jj (P:Program)(o:Oper):Bool:=match o.op with
 | .call c=>match c.callee with
  | .value (.func f)=>Vl P f
  | _=>false
 | .move _ | .assign _ | .alloc _ | .box _ _ | .build _ _ | .buildSlice _ _ _ | .load _ _ | .store _ _ _ | .binOp _ _ _ _ _ | .unOp _ _ _ | .fieldAddr _ _ _ | .indexAddr _ _ _ | .lookup _ _ _ _ | .mapUpdate _ _ _ _ | .extract _ _ | .nilCheck _ | .pick _ _ _=>true
 | _=>false
theorem Ez {s:Sem Value}{w w':World}{r:Next}(h:(do pure (Next.value (←s)):Sem Next).run P w=.ok r w'):∃v,r=.value v:=by
 rw[Sem.run_bind]at h;cases hs:s.run P w with
 | ok d w2=>rw[hs]at h;simp at h;exact⟨d,h.1.symm⟩
 | halt x w2=>rw[hs]at h;simp at h
theorem Fp {s:Sem Unit}{w w':World}{r:Next}(h:(do s;pure Next.skip:Sem Next).run P w=.ok r w'):r=.skip:=by
 rw[Sem.run_bind]at h;cases hs:s.run P w with
 | ok d w2=>rw[hs]at h;simp at h;exact h.1.symm
 | halt x w2=>rw[hs]at h;simp at h
def IT (r:Next):Prop:=(∃v,r=.value v)\/r=.skip\/∃f args,r=.enter f args
theorem xP {α:Type}{s:Sem α}{f:α->Sem Next}{w w':World}{r:Next}(h:(s >>= f).run P w=.ok r w'):∃x w2,(f x).run P w2=.ok r w':=by
 rw[Sem.run_bind]at h;cases hs:s.run P w with
 | ok d w2=>rw[hs]at h;exact⟨d,w2,h⟩
 | halt x w2=>rw[hs]at h;simp at h
theorem HW {x r:Next}{w w':World}(h:(pure x:Sem Next).run P w=.ok r w'):r=x:=by rw[Sem.run_pure]at h;cases h;rfl
theorem wx {r:Next}{w w':World}(h:(runtimePanic .nilDeref:Sem Next).run P w=.ok r w'):False:=by simp[runtimePanic,goPanic,Sem.run,go_sem]at h
theorem Np {a:Act}{o:Oper}{w w':World}{r:Next}(hk:jj P o=true)(h:(execOp a.eval o).run P w=.ok r w'):IT r:=by
 unfold jj at hk;unfold execOp at h;cases ho:o.op<;>rw[ho]at hk h<;>simp only at hk h<;>first
  | exact .inl (Ez h)
  | exact .inr (.inl (Fp h))
  | cases hk
  | skip
 case move x=>rw[Sem.run_pure]at h;cases h;exact .inl ⟨_,rfl⟩
 case assign x=>rw[Sem.run_pure]at h;cases h;exact .inl ⟨_,rfl⟩
 case pick c x y=>
  rw[Sem.run_bind]at h;cases hs:(asBool (a.eval c)).run P w with
  | ok d e=>rw[hs]at h;simp at h;exact .inl ⟨_,h.1.symm⟩
  | halt x e=>rw[hs]at h;simp at h
 case call c=>
  obtain⟨callee,args,b⟩:=c;simp only at hk h;split at hk
  ·rename_i f;have g:=KR hk (args.map a.eval) w;have i:(do let d ←resolve a.eval {callee:=.value (.func f),args:=args,argTypes:=b} o.type;invoke d.target d.args:Sem Next).run P w=(callFunc f (args.map a.eval)).run P w:=by
    simp[resolve,Act.eval,Deferred.ofValue,invoke]
   rw[i,g]at h;cases h;exact .inr (.inr ⟨_,_,rfl⟩)
  ·cases hk
 case nilCheck x=>
  split at h
  ·exact(wx h).elim
  ·exact(wx h).elim
  ·exact(wx h).elim
  ·split at h
   ·exact(wx h).elim
   ·obtain⟨y,e,h⟩:=xP h;obtain⟨z,m,h⟩:=xP h;split at h
    ·obtain⟨y,j,h⟩:=xP h;exact .inl ⟨_,HW h⟩
    ·exact .inl ⟨_,HW h⟩
   ·exact .inl ⟨_,HW h⟩
  ·exact .inl ⟨_,HW h⟩
theorem DY {o:Oper}{a:Act}{w:World}{ds:List Deferred}{next next':Act->World->Prop}{Q Q':Exit->Act->World->Prop}(hk:jj P o=true)(h:o.wp P (Act.wd a []) w next Q')
 (hn:∀a' w',next a' w'->a'.defers=[]->next' (Act.wd a' ds) w') (hp:∀c a w,¬Q' (.panic c) a w) (ho:∀a w,¬Q' .outgrown a w):o.wpIn (Fw ro) m0 P (Act.wd a ds) w next' Q:=by
 have g:∀c,o.op≠.defer c:=λc m=>by unfold jj at hk;rw[m]at hk;cases hk
 refine⟨λ_ _=>trivial,?_⟩;rw[Oper.semAt_eq _ _ _ g];unfold Oper.wp at h;have j:(execOp (Act.wd a []).eval o)=execOp (Act.wd a ds).eval o:=rfl;rw[j]at h;have hd:∀v,((Act.wd a []).put o.dst v).defers=[]:=λv=>by rw[G3];rfl
 have i:∀v,Act.wd ((Act.wd a []).put o.dst v) ds=(Act.wd a ds).put o.dst v:=λv=>by rw[G3,G3,yX]
 cases hr:(execOp (Act.wd a ds).eval o).run P w with
 | ok r w'=>
  rw[hr]at h;rcases Np hk hr with⟨v,rfl⟩|rfl|⟨f,args,rfl⟩
  ·rw[Oper.uponIn_value,←i];exact hn _ _ h (hd v)
  ·rw[Oper.uponIn_skip,←i];exact hn _ _ h (hd _)
  ·refine⟨λh=>by simp[Fw,Fence.wide]at h,Ch (Calls.mono h λe d b=>?_)⟩;cases e with
   | returned v=>
    show next' ((Act.wd a ds).put o.dst v) d;rw[←i];exact hn _ _ b (hd v)
   | panicked chain=>exact(hp _ _ _ b).elim
   | outgrown=>obtain⟨p,w0,b⟩:=b;exact(ho _ _ b).elim
 | halt x w'=>
  rw[hr]at h;cases x<;>first
   | exact(hp _ _ _ h).elim
   | exact h.elim
theorem IJ {ops:Array Oper}{i:Nat}{a:Act}{w:World}{ds:List Deferred}{next next':Act->World->Prop}{Q Q':Exit->Act->World->Prop}(hk:∀o∈ops,jj P o=true)(h:wpOp P ops Q' i next (Act.wd a []) w)
 (hn:∀a' w',next (Act.wd a' []) w'->next' (Act.wd a' ds) w') (hp:∀c a w,¬Q' (.panic c) a w) (ho:∀a w,¬Q' .outgrown a w):wpOpIn (Fw ro) m0 P ops Q i next' (Act.wd a ds) w:=by
 unfold wpOp at h;unfold wpOpIn;cases hi:ops[i]? with
 | none=>rw[hi]at h;exact hn _ _ h
 | some o=>
  rw[hi]at h;simp only at h ⊢;have b:yielded ops (Act.wd a []).tmps=yielded ops (Act.wd a ds).tmps:=rfl;rw[b]at h;split
  ·rename_i hw;rw[zC hw]at h;rcases h with h|⟨_,a0,w0,hq⟩
   ·exact DY (hk o (vN hi)) h (λa' w' d hd=>hn a' w' (by rw[Vy hd];exact d)) hp ho
   ·exact(ho _ _ hq).elim
  ·rename_i hw;rw[zB hw,G3]at h;refine⟨λ_ _=>trivial,?_⟩;rw[G3];exact hn _ _ h
theorem xH {ops:Array Oper}{ds:List Deferred}{Q Q':Exit->Act->World->Prop}(hk:∀o∈ops,jj P o=true)(hp:∀c a w,¬Q' (.panic c) a w)(ho:∀a w,¬Q' .outgrown a w)(hN:∀a w,Q' .normal (Act.wd a []) w->Q .normal (Act.wd a ds) w) :
 ∀(m:Nat) (listed:Array Bool) (a:Act) (w:World),wpAny P .any ops Q' m listed (Act.wd a []) w->wpAnyIn (Fw ro) m0 P .any ops Q m listed (Act.wd a ds) w
 | 0,listed,a,w,h=>⟨h.1,hN _ _ h.2⟩
 | m+1,listed,a,w,h=>⟨λe=>hN _ _ (h.1 e),λi hi=>IJ hk (h.2 i hi) (λa' w' h'=>xH hk hp ho hN m _ a' w' h') hp ho⟩
theorem Gq {ops:Array Oper}{ds:List Deferred}{Q Q':Exit->Act->World->Prop}(hp:∀c a w,¬Q' (.panic c) a w)(ho:∀a w,¬Q' .outgrown a w)(hN:∀a w,Q' .normal (Act.wd a []) w->Q .normal (Act.wd a ds) w) :
 ∀(l:List Oper) (a:Act) (w:World),(∀o∈l,jj P o=true)->wpList P ops Q' l (Act.wd a []) w->wpListIn (Fw ro) m0 P ops Q l (Act.wd a ds) w
 | [],a,w,_,h=>hN _ _ h
 | o::l,a,w,hk,h=>by
  have hl:=λe b=>hk e (ou _ b);unfold wpList at h;unfold wpListIn;have d:yielded ops (Act.wd a []).tmps=yielded ops (Act.wd a ds).tmps:=rfl;rw[d]at h;split
  ·rename_i hw;rw[zC hw]at h;rcases h with h|⟨_,a0,w0,hq⟩
   ·exact DY (hk o qs) h (λi g j hd=>Gq hp ho hN l i g hl (by rw[Vy hd];exact j)) hp ho
   ·exact(ho _ _ hq).elim
  ·rename_i hw;rw[zB hw,G3]at h;refine⟨λ_ _=>trivial,?_⟩;rw[G3];exact Gq hp ho hN l _ w hl h
structure kX (ds:List Deferred) (N:Nat) (ρ:Env) (a:Act):Prop where
 f:Fits N ρ (Act.wd a [])
 d:a.defers=ds
theorem kX.ev {ds:List Deferred}{N:Nat}{ρ:Env}{a:Act}(h:kX ds N ρ a):∀x v,ev ρ x=some v->a.eval x=v:=λx v b=>h.f.ev x v b
def yA (Q:Act->World->Prop):Exit->Act->World->Prop
 | .normal,a,w=>Q a w
 | _,_,_=>False
def nR (P:Program)(dz:Bool)(ops:Array Oper)(draw:Bool):RH->Bool
 | .seq _=>!draw&&(dz||ops.all (jj P))
 | .held _ _ _=>draw&&ops.all (jj P)
 | .gQ _ _ _ _=>draw&&ops.all (jj P)
 | _=>false
theorem Au {ops:Array Oper}(h:ops.all (jj P)=true):∀o∈ops,jj P o=true:=λo a=>by rw[Array.all_eq_true']at h;exact h o a
theorem Bd {N id:Nat}{ops:Array Oper}{sm:Bool}{C:List Nat}{sh:SH}{K:Env->Hp->Prop}{ρ:Env}{a:Act}{w:World}{Q:Act->World->Prop}
 (hsel:Region.noSelect ops=true) (h:vL P N sm C sh ops ρ w.heap K)
 (hf:Fits N ρ a) (hK:∀ρ' a' w',Fits N ρ' a'->Xa w w'->Vi ops.toList ρ ρ'->K ρ' w'.heap->Q a' w'):wpAny P .any ops (yA Q) ops.size (Array.replicate ops.size false) a {w with drawn:=w.drawn+1}:=by
 have hd:Xa w {w with drawn:=w.drawn+1}:=⟨rfl,rfl,rfl,zD _⟩;have e:yA Q=λe a w=>match e with | .normal=>Q a w|_=>False:=by funext e a w;cases e<;>rfl
 rw[e];cases sm
 ·exact Vx _ _ _ _ (ZK (S:=λ_=>True) (w:={w with drawn:=w.drawn+1}) (Qn:=Q) hsel (λ_ _=>trivial) 400 ops.size h hf (gT.start ops) (.inl trivial) λρ' a' w' b i g d=>hK ρ' a' w' b (hd.trans i) g d)
 ·obtain⟨S,j,h⟩:=h;exact Vx _ _ _ _ (ZK (S:=S) (w:={w with drawn:=w.drawn+1}) (Qn:=Q) hsel (λe=>by cases e) 400 ops.size h hf (gT.start ops) (.inl j) λρ' a' w' b i g d=>hK ρ' a' w' b (hd.trans i) g d)
theorem Ii {N id:Nat}{r:RH}{ops:Array Oper}{draw:Bool}{ρ:Env}{a:Act}{w:World}{K:Env->Hp->Prop}{Q:Exit->Act->World->Prop}{ds:List Deferred}
 (h:lW P N r ops draw ρ w.heap K) (ho:nR P ds.isEmpty ops draw r=true) (hf:kX ds N ρ a) (hK:∀ρ' a' w',kX ds N ρ' a'->Xa w w'->K ρ' w'.heap->Q .normal a' w'):(Code.region id ops draw).wpIn (Fw ro) m0 P Q a w:=by
 have D:Act.wd (Act.wd a []) ds=a:=by rw[yX];exact Vy hf.d
 have i:∀ρ' a' w',Fits N ρ' a'->Xa w w'->K ρ' w'.heap->Q .normal (Act.wd a' ds) w':=λρ' a' w' b g e=>hK ρ' _ w' ⟨by rw[yX,Vy b.defers];exact b,rfl⟩ g e;unfold lW at h;split at h
 ·rename_i A;simp only[nR,tZ,oP,mP]at ho;refine wpIn_region_list ?_;rcases ho with ho|ho
  ·have s:ds=[]:=by cases ds<;>simp at ho;rfl
   subst s;have u:Act.wd a []=a:=D;rw[←u];have:=Kn (ro:=ro) (m0:=m0) (Q:=Q) (tail:=[]) 400 h hf.f λρ' a' w' b g p e=>by
    have:=i ρ' a' w' b g e;rw[Vy b.defers]at this;exact this
   simpa using this
  ·have:=Q6 (Q:=yA λa' w'=>Q .normal (Act.wd a' ds) w') (tail:=[]) 400 h hf.f λρ' a' w' b g p e=>i ρ' a' w' b g e;have j:=Gq (ro:=ro) (m0:=m0) (ds:=ds) (Q:=Q) (ops:=ops) (λ_ _ _ h=>h) (λ_ _ h=>h) (λa w h=>h) ops.toList a w (λo y=>Au ho o (by simpa using y)) (by simpa using this);rw[Vy hf.d]at j;exact j
 ·cases ho
 ·cases ho
 ·rename_i sm sh;rw[Wu]at h;simp only[zE]at h;simp only[nR,oP]at ho;refine wpIn_region_any h.1.1 ?_;have z:=Bd (id:=id) (Q:=λa' w'=>Q .normal (Act.wd a' ds) w') h.1.2 h.2 hf.f λρ' a' w' b g p e=>i ρ' a' w' b g e;have j:=xH (ro:=ro) (m0:=m0) (ds:=ds) (Q:=Q) (Au ho) (λ_ _ _ h=>h) (λ_ _ h=>h) (λa w h=>h) _ _ _ _ z;rw[Vy hf.d]at j;exact j
 ·rename_i sm js sh;rw[Wu]at h;simp only[zE]at h;simp only[nR,oP]at ho;obtain⟨⟨C,m,E⟩,J,F,h⟩:=h;refine wpIn_region_any C ?_;have z:=Bd (id:=id) (Q:=λa' w'=>Q .normal (Act.wd a' ds) w') m h hf.f λρ' a' w' b g p e=>by
   obtain⟨vs,B,A⟩:=Ul e;have x:=VA (A.mono F);exact i _ a' w' (QS js (Vh b p) b B) g x
  have j:=xH (ro:=ro) (m0:=m0) (ds:=ds) (Q:=Q) (Au ho) (λ_ _ _ h=>h) (λ_ _ h=>h) (λa w h=>h) _ _ _ _ z;rw[Vy hf.d]at j;exact j
 ·exact h.elim
def mZ (P:Program)(dz:Bool):Code->Hn->Bool
 | .skip,_=>true
 | .ret,_=>true
 | .exit _,_=>true
 | .region _ ops d,.cS r=>nR P dz ops d r
 | .seq a b,.seq x y=>mZ P dz a x&&mZ P dz b y
 | .cond _ a b,.cond x y=>mZ P dz a x&&mZ P dz b y
 | .block _ b,.block x=>mZ P dz b x
 | _,_=>false
theorem QK {N:Nat}{ds:List Deferred}:∀(c:Code) {x:Hn} {Q:Exit->Env->Hp->Prop} {Q':Exit->Act->World->Prop} {ρ:Env} {a:Act} {w:World},
 im P N c x Q ρ w.heap->mZ P ds.isEmpty c x=true->kX ds N ρ a->(∀e ρ' a' w',kX ds N ρ' a'->Xa w w'->Q e ρ' w'.heap->Q' e a' w')->c.wpIn (Fw ro) m0 P Q' a w
 | .skip,x,Q,Q',ρ,a,w,h,ho,hf,hq=>by
  have h':Q .normal ρ w.heap:=by cases x<;>exact h
  exact wpIn_skip (hq _ ρ a w hf (.refl _) h')
 | .ret,x,Q,Q',ρ,a,w,h,ho,hf,hq=>by
  have h':Q .ret ρ w.heap:=by cases x<;>exact h
  exact wpIn_ret (hq _ ρ a w hf (.refl _) h')
 | .exit id,x,Q,Q',ρ,a,w,h,ho,hf,hq=>by
  have h':Q (.exit id) ρ w.heap:=by cases x<;>exact h
  exact wpIn_exit (hq _ ρ a w hf (.refl _) h')
 | .region id ops d,x,Q,Q',ρ,a,w,h,ho,hf,hq=>by
  cases x<;>simp only[im]at h
  exact Ii h ho hf λρ' a' w' b j g=>hq _ ρ' a' w' b j g
 | .seq c1 c2,x,Q,Q',ρ,a,w,h,ho,hf,hq=>by
  cases x<;>simp only[im]at h
  case seq x y=>
   simp only[mZ,zE]at ho;refine wpIn_seq (QK c1 h ho.1 hf λe ρ' a' w' b j g=>?_);cases e
   case normal=>exact QK c2 g ho.2 b λe A r p m z s=>hq e A r p m (j.trans z) s
   all_goals exact hq _ ρ' a' w' b j g
  case jT=>cases ho
 | .cond c c1 c2,x,Q,Q',ρ,a,w,h,ho,hf,hq=>by
  cases x<;>simp only[im]at h
  simp only[mZ,zE]at ho;obtain⟨t,B,h⟩:=Q2 h;refine wpIn_cond_split (hf.ev _ _ B) (λe=>?_) (λe=>?_)
  ·exact QK c1 (h.t e) ho.1 hf hq
  ·exact QK c2 (h.f e) ho.2 hf hq
 | .block id c1,x,Q,Q',ρ,a,w,h,ho,hf,hq=>by
  cases x<;>simp only[im]at h
  refine wpIn_block (QK c1 h ho hf λe ρ' a' w' b j g=>?_);cases e
  case exit i=>
   simp only[uT]at g;simp only[Exit.inBlock];split at g
   ·rename_i e;have u:i=id:=zo e;rw[zC u];exact hq _ ρ' a' w' b j g
   ·rename_i e;have u:i≠id:=λh=>by subst h;simp at e
    rw[zB u];exact hq _ ρ' a' w' b j g
  all_goals exact hq _ ρ' a' w' b j g
 | .loop ..,x,Q,Q',ρ,a,w,h,ho,hf,hq=>(by cases x<;>cases ho)
 | .scope ..,x,Q,Q',ρ,a,w,h,ho,hf,hq=>(by cases x<;>cases ho)
 | .label ..,x,Q,Q',ρ,a,w,h,ho,hf,hq=>(by cases x<;>cases ho)
 | .rangeFunc ..,x,Q,Q',ρ,a,w,h,ho,hf,hq=>(by cases x<;>cases ho)
 | .goto ..,x,Q,Q',ρ,a,w,h,ho,hf,hq=>(by cases x<;>cases ho)
 | .refuse ..,x,Q,Q',ρ,a,w,h,ho,hf,hq=>(by cases x<;>cases ho)
def UF (P:Program)(l:Nat)(args:List Value)(h:Hp)(R:aO):Prop:=
 ∀w:World,w.heap=h->∃fn tmps asg bd,(Instr.yield l args.toArray).run P w=.ok (.round l fn tmps asg bd) w/\RoundIn Fence.wide 0 P l fn tmps asg bd w λe w'=>Xa w w'/\∃b,e=.returned (.bool b)/\R b w'.heap
def yK (P:Program)(o:Oper)(ρ:Env)(h:Hp)(K:Value->Hp->Prop):Prop:=match o.op with
 | .call c=>match c.callee with
  | .value (.tmp t)=>match ρ t,oJ ρ c.args.toList with
   | some (.func (.yield l) first cap),some args=>fJ (first.isEmpty&&cap.isEmpty) (UF P l args h λb h'=>K (.bool b) h')
   | _,_=>False
  | _=>pX P o.op o.type ρ h K
 | _=>pX P o.op o.type ρ h K
theorem F5 {ρ:Env}{o:Oper}{a:Act}{w:World}{K:Value->Hp->Prop}{next:Act->World->Prop}{Q:Exit->Act->World->Prop}(hf:∀x v,ev ρ x=some v->a.eval x=v)
 (h:yK P o ρ w.heap K) (hn:∀v w',Xa w w'->K v w'.heap->next (a.put o.dst v) w'):o.wpIn (Fw ro) m0 P a w next Q:=by
 have d:pX P o.op o.type ρ w.heap K->o.wpIn (Fw ro) m0 P a w next Q:=λh=>Qy.uponIn (V4 hf o h) hn
 unfold yK at h;split at h
 ·rename_i c hc;split at h
  ·rename_i t ht;split at h
   ·rename_i l first cap args hρ hargs
    rw[Wu]at h;obtain⟨g,h⟩:=h;simp only[zE,wb]at g;obtain⟨rfl,rfl⟩:=g;have s:∀c,o.op≠.defer c:=λM A=>by rw[hc]at A;cases A
    refine⟨λ_ _=>trivial,?_⟩;rw[Oper.semAt_eq _ _ _ s];obtain⟨H,i,z,J,C,E⟩:=h w rfl;have e1:=Zz hf hargs;have m:c.args.map a.eval=args.toArray:=by apply Array.ext';simpa using e1
    have e2:a.eval (.tmp t)=.func (.yield l) #[] #[]:=hf (.tmp t) _ hρ;have j:(execOp a.eval o).run P w=.ok (.round l H i z J) w:=by
     obtain⟨dst,op,L,pos,u,r⟩:=o;simp only at hc;subst hc;obtain⟨p,y,F⟩:=c;simp only at ht m;subst ht;simpa[execOp,resolve,m,e2,Deferred.ofValue,invoke]using C
    rw[j];refine⟨λh=>by simp[Fw,Fence.wide]at h,?_⟩;refine RoundIn.mono (R:=λe w'=>Xa w w'/\∃b,e=.returned (.bool b)/\K (.bool b) w'.heap) ⟨trivial,λc G _=>E.2 c G (room_wide _)⟩ ?_;rintro e w' ⟨D,b,rfl,B⟩;exact hn _ _ D B
   ·exact h.elim
  ·exact d h
 ·exact d h
def vH (P:Program)(N:Nat):List Oper->Env->Hp->(Env->Hp->Prop)->Prop
 | [],ρ,h,K=>K ρ h
 | o::os,ρ,h,K=>fJ (pC N o.dst&&o.guard.isNone) (yK P o ρ h λv h'=>vH P N os (ρ.gV o.dst v) h' K)
theorem Gp {N:Nat}{ops:Array Oper}{Q:Exit->Act->World->Prop}:∀{os:List Oper} {ρ:Env} {a:Act} {w:World} {K:Env->Hp->Prop},
 vH P N os ρ w.heap K->Fits N ρ a->(∀ρ' a' w',Fits N ρ' a'->Xa w w'->Vi os ρ ρ'->K ρ' w'.heap->Q .normal a' w')->wpListIn (Fw ro) m0 P ops Q os a w
 | [],ρ,a,w,K,h,hf,hK=>hK ρ a w hf (.refl _) (λ_ _ _ h=>h) h
 | o::os,ρ,a,w,K,h,hf,hK=>by
  simp only[vH]at h;rw[Wu]at h;obtain⟨hc,h⟩:=h;simp only[zE,Option.isNone_iff_eq_none]at hc;have m:Region.wanted o (yielded ops a.tmps)=true:=by simp[Region.wanted,hc.2]
  simp only[wpListIn,m,zP];refine F5 hf.ev h λv w' p i=>?_;exact Gp i (hf.put hc.1 v) λρ' a' e d b j g=>hK ρ' a' e d (p.trans b) j.cons g
def gI (P:Program)(N:Nat):Code->Hn->(Exit->Env->Hp->Prop)->Env->Hp->Prop
 | .skip,_,Q,ρ,h=>Q .normal ρ h
 | .ret,_,Q,ρ,h=>Q .ret ρ h
 | .exit id,_,Q,ρ,h=>Q (.exit id) ρ h
 | .region _ ops d,.cS r,Q,ρ,h=>lW P N r ops d ρ h λρ' h'=>Q .normal ρ' h'
 | .region _ ops false,.leaf,Q,ρ,h=>vH P N ops.toList ρ h λρ' h'=>Q .normal ρ' h'
 | .seq a b,.seq x y,Q,ρ,h=>gI P N a x (sj (λρ' h'=>gI P N b y Q ρ' h') Q) ρ h
 | .cond c a b,.cond x y,Q,ρ,h=>VX ρ c λt=>If t (gI P N a x Q ρ h) (gI P N b y Q ρ h)
 | .block id b,.block x,Q,ρ,h=>gI P N b x (uT id Q) ρ h
 | .loop b,.loop js x,Q,ρ,h=>fJ (js.all λs=>lL (fA b) s.1)
  (YC (lf js) (λI=>qy js ρ I h) λJ=>lam (lf js) λvs h'=>gI P N b x (sj (λρ' h''=>qy js ρ' J h'') Q) (ia (ρ.dR (fA b)) js vs) h')
 | _,_,_,_,_=>False
theorem NA {F:Fence}{c:Code}{Q:Exit->Act->World->Prop}{a:Act}{w:World}(I:Nat->Act->World->Prop)(h0:∃n,I n a w)
 (round:∀n a w,I n a w->c.wpIn F m0 P (Exit.then (λa' w'=>∃m,m<n/\I m a' w') Q) a w):(Code.loop c).wpIn F m0 P Q a w:=by
 refine wpIn_loop (λa w=>∃n,I n a w) (λa w=>sL λn=>I n a w) h0 λa w i=>?_;refine wpIn_mono (round _ a w (GR i)) λe a' w' d=>?_;cases e<;>try exact d
 obtain⟨m,g,b⟩:=d;exact⟨⟨m,b⟩,xg (BC b) g⟩
theorem Q4 {N:Nat}:∀(c:Code) {x:Hn} {Q:Exit->Env->Hp->Prop} {Q':Exit->Act->World->Prop} {ρ:Env} {a:Act} {w:World},
 gI P N c x Q ρ w.heap->Fits N ρ a->(∀e ρ' a' w',Fits N ρ' a'->Xa w w'->Kt (fA c) ρ ρ'->Q e ρ' w'.heap->Q' e a' w')->c.wpIn (Fw none) m0 P Q' a w
 | .skip,x,Q,Q',ρ,a,w,h,hf,hq=>by
  have h':Q .normal ρ w.heap:=by cases x<;>exact h
  exact wpIn_skip (hq _ ρ a w hf (.refl _) (.refl _ _) h')
 | .ret,x,Q,Q',ρ,a,w,h,hf,hq=>by
  have h':Q .ret ρ w.heap:=by cases x<;>exact h
  exact wpIn_ret (hq _ ρ a w hf (.refl _) (.refl _ _) h')
 | .exit id,x,Q,Q',ρ,a,w,h,hf,hq=>by
  have h':Q (.exit id) ρ w.heap:=by cases x<;>exact h
  exact wpIn_exit (hq _ ρ a w hf (.refl _) (.refl _ _) h')
 | .region id ops d,x,Q,Q',ρ,a,w,h,hf,hq=>by
  cases x
  case cS r=>
   have h':lW P N r ops d ρ w.heap λρ' h'=>Q .normal ρ' h':=by cases d<;>simpa only[gI]using h
   exact wpIn_wide.2 (Bh h' hf λρ' a' w' b j s g=>hq _ ρ' a' w' b j s g)
  case leaf=>
   cases d<;>simp only[gI]at h
   refine wpIn_region_list (Gp h hf λρ' a' w' b j s g=>hq _ ρ' a' w' b j s g)
  all_goals (cases d<;>simp only[gI]at h)
 | .seq c1 c2,x,Q,Q',ρ,a,w,h,hf,hq=>by
  cases x<;>simp only[gI]at h
  refine wpIn_seq (Q4 c1 h hf λe ρ' a' w' b j s g=>?_);cases e
  case normal=>exact Q4 c2 g b λe ρ'' B A p u M D=>hq e ρ'' B A p (j.trans u) (s.trans M) D
  all_goals exact hq _ ρ' a' w' b j (s.mono λi z=>kv _ z) g
 | .cond c c1 c2,x,Q,Q',ρ,a,w,h,hf,hq=>by
  cases x<;>simp only[gI]at h
  obtain⟨t,R,h⟩:=Q2 h;refine wpIn_cond_split (hf.ev _ _ R) (λe=>?_) (λe=>?_)
  ·exact Q4 c1 (h.t e) hf λe ρ' a' w' b j s g=>hq e ρ' a' w' b j (s.mono λi z=>kv _ z) g
  ·exact Q4 c2 (h.f e) hf λe ρ' a' w' b j s g=>hq e ρ' a' w' b j (s.mono λi z=>mU _ z) g
 | .block id c1,x,Q,Q',ρ,a,w,h,hf,hq=>by
  cases x<;>simp only[gI]at h
  refine wpIn_block (Q4 c1 h hf λe ρ' a' w' b j s g=>?_);cases e
  case exit i=>
   simp only[uT]at g;simp only[Exit.inBlock];split at g
   ·rename_i e;have F:i=id:=zo e;rw[zC F];exact hq _ ρ' a' w' b j s g
   ·rename_i e;have F:i≠id:=λh=>by subst h;simp at e
    rw[zB F];exact hq _ ρ' a' w' b j s g
  all_goals exact hq _ ρ' a' w' b j s g
 | .loop c1,x,Q,Q',ρ,a,w,h,hf,hq=>by
  cases x<;>simp only[gI]at h
  rename_i js x;rw[Wu]at h;obtain⟨J,I,μ,E,V⟩:=h;refine NA (λn a' w'=>∃vs,Fits N (ia (ρ.dR (fA c1)) js vs) a'/\Xa w w'/\Sat (lf js) (Hu (lf js) I μ (· = n)) vs w'.heap) ?_ ?_
  ·obtain⟨vs,S,E⟩:=Ul E;obtain⟨n,G⟩:=Ur μ E;exact⟨n,vs,QS js (hf.weaken (G4 _ _)) hf S,.refl _,G⟩
  ·rintro n a' w' ⟨vs,b,j,G⟩;have:=VA (G.mono (V n));have W:=(V7 (fA c1) ρ).trans (Q5 (fA c1) js (ρ.dR (fA c1)) vs J);refine Q4 c1 this b λe ρ'' B A p u s g=>?_;have y:Kt (fA c1) ρ ρ'':=(W.trans s).mono λi z=>by
    simp only[zL]at z;rcases z with(h|h)|h<;>exact h
   cases e
   case normal=>
    obtain⟨H,L,K⟩:=Ul g;obtain⟨m,U,C⟩:=UZ K;exact⟨m,U,H,QS js (Vh p y) p L,j.trans u,C⟩
   all_goals exact hq _ ρ'' B A p (j.trans u) y g
 | .scope ..,x,Q,Q',ρ,a,w,h,hf,hq=>(by cases x<;>simp only[gI]at h)
 | .label ..,x,Q,Q',ρ,a,w,h,hf,hq=>(by cases x<;>simp only[gI]at h)
 | .rangeFunc ..,x,Q,Q',ρ,a,w,h,hf,hq=>(by cases x<;>simp only[gI]at h)
 | .goto ..,x,Q,Q',ρ,a,w,h,hf,hq=>(by cases x<;>simp only[gI]at h)
 | .refuse ..,x,Q,Q',ρ,a,w,h,hf,hq=>(by cases x<;>simp only[gI]at h)
def yd (P:Program)(f:Nat)(args:Array Value)(h:Hp)(R:aP):Prop:=
 ∀w:World,w.heap=h->∀m,CallsIn Fence.wide m P f args w λe w'=>Xa w w'/\(∃v,e=.returned v)/\R w'.heap
def El (P:Program)(fn:Func)(x:Hn)(args:List Value)(R:aP)(h:Hp):Prop:=
 match fn.body with
 | some c=>fJ (Nat.ble args.length fn.ntmps&&fn.results.isEmpty) (gI P fn.ntmps c x (λe ρ h=>match e with | .normal=>R h | .ret=>R h|_=>False) (Hr args) h)
 | none=>False
theorem N8 {f:Nat}{fn:Func}{x:Hn}{args:List Value}{R:aP}{h:Hp}(hfn:P.funcs[f]?=some fn)(hk:El P fn x args R h):yd P f args.toArray h R:=by
 intro w hw m;subst hw;unfold El at hk;split at hk
 case h_2=>exact hk.elim
 rename_i c hb;rw[Wu]at hk;obtain⟨d,hk⟩:=hk;simp only[zE,wb]at d;have r:args.length<=fn.ntmps:=vv d.1;refine callsIn_of_wp_marks hfn hb trivial ?_;have a:∀b w,(results fn b).run P w=.ok (.tuple #[]) w:=λb w=>by
  simp[results,d.2]
 refine Q4 c hk (ρ:=Hr args) ⟨rfl,by simp;omega,λi v g=>?_⟩ λe z u A y s B j=>?_
 ·simp only[Hr]at g;have p:i<args.length:=(cX.1 g).1;rw[uC (by simpa using p)];simpa using g
 ·cases e
  case normal=>
   show LeavesInM _ _ _ _ _ _ u.defers _ _;rw[y.defers];exact⟨_,a _ _,s,⟨_,rfl⟩,j⟩
  case ret=>
   show LeavesInM _ _ _ _ _ _ u.defers _ _;rw[y.defers];exact⟨_,a _ _,s,⟨_,rfl⟩,j⟩
  all_goals exact j.elim
end Go.Vc
namespace Go.Vc
open Go
variable {m0:Nat}{P:Program}
def tV (P:Program)(fv:Fv)(xs:List (List Value))(Kp:aP):Prop:=
 ∀(l:Nat) (J:Nat->Hp->Prop),(∀k h h',J k h->bK h h'->J k h')->(∀k h,J k h->Kp h) →
  (∀k x,xs[k]?=some x->∀h,J k h->UF P l x h λb h'=>b=true/\J (k+1) h') →
  ∀h,J 0 h->yd P fv.f (#[.func (.yield l) #[] #[]]++fv.captured) h λh'=>J xs.length h'
def Az (P:Program){α:Type}(enc:α->List Value)(fv:Fv)(h:Hp)(round:α->(Hp->Prop)->Hp->Prop)(K:aP):Prop:=
 fv.first = #[]/\Vl P fv.f=true/\∃(xs:List α) (Kp:aP) (I:Nat->Hp->Prop),tV P fv (xs.map enc) Kp/\(∀k s s',I k s->Ext (λb=>b=h.size\/b=h.size+1) s s'->I k s')/\(∀k s,I k s->Kp s)/\I 0 h ∧
  (∀k x,xs[k]?=some x->∀s,I k s->h.size+2<=s.size->round x (λs'=>I (k+1) s'/\s'[h.size]?=s[h.size]?/\s'[h.size+1]?=s[h.size+1]?) s) ∧
  (∀s,I xs.length s->s[h.size]?=some (.deferred (some []))->K s)
def nK:List Nat->List Value->Env->Env
 | p::ps,v::vs,ρ=>nK ps vs (ρ.put p v)
 | _,_,ρ=>ρ
theorem AV {N:Nat}:∀(ps:List Nat) (vs:List Value) {ρ:Env} {t:Array Value},(∀p∈ps,p<N)->Fits N ρ {tmps:=t,defers:=[]}->Fits N (nK ps vs ρ) {tmps:=(ps.zip vs).foldl (λt (x:Nat×Value)=>t.setIfInBounds x.1 x.2) t,defers:=[]}
 | [],vs,ρ,t,_,hf=>by cases vs<;>exact hf
 | p::ps,[],ρ,t,_,hf=>hf
 | p::ps,v::vs,ρ,t,hp,hf=>by
  have h1:=hf.put (d:=some p) (show Nat.blt p N=true by rw[Nat.blt_eq];exact hp p qs) v;exact AV ps vs (λq a=>hp q (ou _ a)) h1
def pt (N:Nat):List Oper->Env->Option Env
 | [],ρ=>some ρ
 | o::os,ρ=>match o.op,o.dst,o.guard with
  | .assign x,some d,none=>match ev ρ x with
   | some v=>bif Nat.blt d N then pt N os (ρ.put d v)else none
   | none=>none
  | _,_,_=>none
def pI (N:Nat):Code->Env->Option Env
 | .region _ ops false,ρ=>pt N ops.toList ρ
 | .skip,ρ=>some ρ
 | _,_=>none
theorem Cv {N:Nat}{F:Fence}{ops:Array Oper}{Q:Exit->Act->World->Prop}(hF:∀f,F.fn f):∀{os:List Oper} {ρ ρ':Env} {a:Act} {w:World},pt N os ρ=some ρ'->Fits N ρ a->(∀a',Fits N ρ' a'->Q .normal a' w)->wpListIn F m0 P ops Q os a w
 | [],ρ,ρ',a,w,h,hf,hq=>by cases h;exact hq a hf
 | o::os,ρ,ρ',a,w,h,hf,hq=>by
  unfold pt at h;split at h
  ·rename_i x d hop hd hg;split at h
   ·rename_i v hv;cases hb:Nat.blt d N with
    | false=>rw[hb]at h;cases h
    | true=>
     rw[hb]at h;have hw:Region.wanted o (yielded ops a.tmps)=true:=by simp[Region.wanted,hg]
     simp only[wpListIn,hw,zP];refine⟨λf _=>hF f,?_⟩;rw[Oper.semAt_eq _ _ _ (λc e=>by rw[hop]at e;cases e)];have g:(execOp a.eval o).run P w=.ok (.value v) w:=by
      unfold execOp;rw[hop];simp only;rw[Sem.run_pure,hf.ev x v hv]
     rw[g];have b:=hf.put (d:=some d) hb v;rw[Oper.uponIn_value,hd];exact Cv hF h b hq
   ·cases h
  ·cases h
theorem LM {N:Nat}{F:Fence}{c:Code}{Q:Exit->Act->World->Prop}(hF:∀f,F.fn f){ρ ρ':Env}{a:Act}{w:World}(h:pI N c ρ=some ρ')(hf:Fits N ρ a)(hq:∀a',Fits N ρ' a'->Q .normal a' w):c.wpIn F m0 P Q a w:=by
 unfold pI at h;split at h
 ·exact wpIn_region_list (Cv hF h hf hq)
 ·cases h;exact wpIn_skip (hq a hf)
 ·cases h
def uE (P:Program)(N n:Nat){α:Type}(enc:α->List Value)(fv:Fv)(ps:Array Nat)(asg bd:Code)(x:Hn)(ρ:Env)(h:Hp)(K:aP):Prop:=
 fJ (Nat.beq ps.toList.length n&&(ps.toList.all (λp=>Nat.blt p N)&&mZ P true bd x))
  (Az P enc fv h (λy J s=>match pI N asg (nK ps.toList (enc y) ρ)with
   | some ρ'=>im P N bd x (λe _ s'=>match e with | .normal=>J s'|_=>False) ρ' s
   | none=>False) K)
theorem U0 {w:World}{o:Obj}{b:Nat}(h:b<w.heap.size):(w.alloc o).heap[b]?=w.heap[b]? := by
 show(w.heap.push o)[b]?=w.heap[b]?;rw[uZ,zB O]
theorem Ua (w:World)(l:Nat)(o:Obj):Xa w (w.putObj l o):=⟨rfl,rfl,rfl,by simp⟩
theorem Ao {w:World}{l:Nat}{o:Obj}{F:Nat->Prop}(hl:F l):Ext F w.heap (w.putObj l o).heap:=⟨by simp,λb d a=>World.putObj_heap_other λe=>a (by rw[e];exact hl)⟩
theorem GF {N n:Nat}{α:Type}{enc:α->List Value}(henc:∀y,(enc y).length=n){fv:Fv}{g:Operand}{ps:Array Nat}{asg bd:Code}{x:Hn}{ρ:Env}{a:Act}{w:World}{K:aP}{Q:Exit->Act->World->Prop}
 (hg:a.eval g=.func (.func fv.f) fv.first fv.captured) (hf:Fits N ρ a) (h:uE P N n enc fv ps asg bd x ρ w.heap K)
 (hQ:∀w',Xa w w'->w'.heap[w.heap.size]?=some (.deferred (some []))->K w'.heap->Q .normal {a with defers:={target:=.collected w.heap.size,args := #[]}::a.defers} w'):(Code.rangeFunc g ps asg bd).wpIn Fence.wide m0 P Q a w:=by
 unfold uE at h;rw[Wu]at h;obtain⟨hc,B,H,xs,Kp,I,S,m,hKp,h0,z,L⟩:=h;simp only[zE,zr]at hc;obtain⟨hn,hps,hok⟩:=hc;have M:∀y,(enc y).length=ps.size:=λy=>by
  rw[henc y,←zo hn];simp
 rw[B]at hg;refine wpIn_rangeFunc ?_;intro fn hfn;obtain⟨i,d⟩:∃i:LoopState->Option Code->Loop,i=λst pe=>{state:=st,pending:=pe,fn,tmps:=a.tmps,params:=ps,assign:=asg,body:=bd,defers:=w.heap.size}:=⟨_,rfl⟩;obtain⟨W1,j⟩:∃W1,(w.alloc (.deferred (some []))).alloc (.loop (i .ready none))=W1:=⟨_,rfl⟩;have hsz:W1.heap.size=w.heap.size+2:=by rw[←j];simp
 have hL1:W1.heap[w.heap.size+1]?=some (.loop (i .ready none)):=by
  rw[←j];have:=World.alloc_heap_new (w.alloc (.deferred (some []))) (.loop (i .ready none));rwa [World.size_alloc]at this
 have hK1:W1.heap[w.heap.size]?=some (.deferred (some [])):=by
  rw[←j];exact(U0 aA).trans (World.alloc_heap_new w _)
 have Z:bK w.heap W1.heap:=⟨O,λb r _=>by
  rw[←j];exact(U0 aE).trans (U0 r)⟩
 have ab:Xa w W1:=⟨by rw[←j];rfl,by rw[←j];rfl,by rw[←j];rfl,O⟩;have V:∀{s s':Hp},bK s s'->Ext (λb=>b=w.heap.size\/b=w.heap.size+1) s s':=λe=>⟨e.1,λb r _=>e.2 b r id⟩;have bS:∀{s s':Hp} {b:Nat} {o:Obj},bK s s'->s[b]?=some o->s'[b]?=some o:=λe r=>(e.2 _ (zy.1 r).1 id).trans r;refine⟨w.heap.size+1,[{target:=.collected w.heap.size,args := #[]}],W1,{target:=.fn (.func fv.f) fv.captured,args := #[.func (.yield (w.heap.size+1)) #[] #[]]},W1,fv.f,
  #[.func (.yield (w.heap.size+1)) #[] #[]]++fv.captured,W1,?_,?_,λ_ _=>trivial,?_,λh=>by simp[Fence.wide]at h,?_⟩
 ·rw[←j,d];exact run_enterLoop_outer _ _ _ _ _
 ·simp only[resolve,hg];simp[go_sem]
 ·simp only[invoke];exact KR H _ _
 ·refine(S (w.heap.size+1) (λk s=>I k s/\s[w.heap.size+1]?=some (.loop (i .ready none))/\s[w.heap.size]?=some (.deferred (some [])))
   (λk s s' X e=>⟨m k s s' X.1 (V e),bS e X.2.1,bS e X.2.2⟩) (λk s X=>hKp k s X.1) ?_ W1.heap ⟨m 0 _ _ h0 (V Z),hL1,hK1⟩ W1 rfl (m0-1)).mono ?_
  ·rintro k xv hx s ⟨hI,hl,hk⟩ W rfl;rw[zd,nT]at hx;obtain⟨y,hy,rfl⟩:=hx;have aa:w.heap.size+1<W.heap.size:=(zy.1 hl).1;have R:=run_yield (P:=P) (args:=(enc y).toArray) hl (by rw[d];simpa using M y);rw[d]at R;refine⟨fn,_,asg,bd,R,roundIn_of_wpIn trivial ?_⟩;have hr:=z k y hy;cases hasg:pI N asg (nK ps.toList (enc y) ρ)with
   | none=>
    have:=hr W.heap hI O;simp only[hasg]at this
   | some ρ'=>
    have hfp:Fits N (nK ps.toList (enc y) ρ) {tmps:=(ps.zip (enc y).toArray).foldl (λtmps (t,a)=>tmps.setIfInBounds t a) a.tmps,defers:=[]}:=by
     have h1:=AV ps.toList (enc y) (t:=a.tmps) (λp hp=>by have:=hps p hp;rwa [Nat.blt_eq]at this) (by
      have:=hf;exact⟨rfl,this.size,this.at_⟩)
     have h2:(ps.zip (enc y).toArray).foldl (λtmps (t,a)=>tmps.setIfInBounds t a) a.tmps=(ps.toList.zip (enc y)).foldl (λt (x:Nat×Value)=>t.setIfInBounds x.1 x.2) a.tmps:=by
      rw[←Array.foldl_toList];simp
     rw[h2];exact h1
    refine LM (F:=Fence.wide.inRound (w.heap.size+1)) (λf=>trivial) hasg hfp λa1 G=>⟨_,run_beginRound hl (by rw[d]),?_⟩;have D:(W.putObj (w.heap.size+1) (.loop {i .ready none with state:=.busy})).heap[w.heap.size+1]?=some (.loop {i .ready none with state:=.busy}):=World.putObj_heap_same aa;have u:(W.putObj (w.heap.size+1) (.loop {i .ready none with state:=.busy})).heap[w.heap.size]?=some (.deferred (some [])):=(World.putObj_heap_other O).trans hk;have r:=hr (W.putObj (w.heap.size+1) (.loop {i .ready none with state:=.busy})).heap (m k _ _ hI (Ao (.inr rfl))) (by rw[World.putObj_size];omega);simp only[hasg]at r;refine QK (ro:=some (w.heap.size+1)) (m0:=0) (ds:=[]) bd r hok ⟨by rw[Vy G.defers];exact G,G.defers⟩ λe ρ2 a2 w2 hf2 J hq=>?_;cases e
    case normal=>
     obtain⟨A,U,E⟩:=hq;rw[D]at E;rw[u]at U;have C:=run_endRound (P:=P) none E;refine⟨_,_,C,((Ua _ _ _).trans J).trans (Ua _ _ _),true,rfl,rfl,m _ _ _ A (Ao (.inr rfl)),?_,(World.putObj_heap_other O).trans U⟩;rw[World.putObj_heap_same (zy.1 E).1,d];rfl
    all_goals exact hq.elim
  ·rintro e W2 ⟨J,⟨v,rfl⟩,A,D,u⟩;have C:=run_endLoop (P:=P) D (by rw[d];simp);refine⟨none,_,by rw[d]at C;exact C,?_⟩;have hlt2:=(zy.1 u).1;rw[zl]at A;have Y:∀o,(W2.putObj (w.heap.size+1) o).heap[w.heap.size]?=some (.deferred (some [])):=λo=>(World.putObj_heap_other O).trans u;exact hQ _ ((ab.trans J).trans (Ua _ _ _)) (Y _) (L _ (m _ _ _ A (Ao (.inr rfl))) (Y _))
def sT (D:Nat)(s:Hp)(K:aP):Prop:=s[D]?=some (.deferred (some []))/\K (s.setIfInBounds D (.deferred none))
def nD (P:Program)(fn:Func)(rs:List SK)(R:eH (eM rs))(D:Nat):Exit->Env->Hp->Prop
 | .normal,ρ,h=>sT D h λh'=>kU P fn.results.toList rs ρ h' λvs=>qw (eM rs) R vs h'
 | .ret,ρ,h=>sT D h λh'=>kU P fn.results.toList rs ρ h' λvs=>qw (eM rs) R vs h'
 | _,_,_=>False
inductive TX where
 | nx (x:Hn) (t:TX)
 | r1 (y:Hn) (c:CK) (bd b:Hn)
 | r2 (y:Hn) (c d:CK) (bd b:Hn)
def e1 (c:CK)(y:c.T):List Value:=[c.v y]
def e2 (c d:CK)(y:c.T×d.T):List Value:=[c.v y.1,d.v y.2]
def rW (P:Program)(fn:Func)(rs:List SK)(R:eH (eM rs)):Code->TX->Env->Hp->Prop
 | .seq a b,.nx x t,ρ,h=>im P fn.ntmps a x (sj (λρ' h'=>rW P fn rs R b t ρ' h') (nG P fn rs R)) ρ h
 | .seq (.seq r (.block _ (.rangeFunc g ps asg bd))) b,.r1 y c yb yc,ρ,h=>im P fn.ntmps r y (λe ρ' h'=>match e with
  | .normal=>wv (ev ρ' g) λvg=>mg .fn vg λfv=>fJ (mZ P false b yc) (uE P fn.ntmps 1 (e1 c) fv ps asg bd yb ρ' h' λs=>im P fn.ntmps b yc (nD P fn rs R h'.size) ρ' s)
  | _=>False) ρ h
 | .seq (.seq r (.block _ (.rangeFunc g ps asg bd))) b,.r2 y c d yb yc,ρ,h=>im P fn.ntmps r y (λe ρ' h'=>match e with
  | .normal=>wv (ev ρ' g) λvg=>mg .fn vg λfv=>fJ (mZ P false b yc) (uE P fn.ntmps 2 (e2 c d) fv ps asg bd yb ρ' h' λs=>im P fn.ntmps b yc (nD P fn rs R h'.size) ρ' s)
  | _=>False) ρ h
 | _,_,_,_=>False
theorem UG {fn:Func}{rs:List SK}{R:eH (eM rs)}{w0:World}{e:Exit}{ρ:Env}{a:Act}{w:World}(hf:Fits fn.ntmps ρ a)(io:Xa w0 w)(h:nG P fn rs R e ρ w.heap) :
 bodyPostM Fence.wide m0 P fn (λe w'=>Xa w0 w'/\∃vs,e=.returned (pack rs vs)/\Sat (eM rs) R vs w'.heap) e a w:=by
 cases e<;>simp only[nG]at h
 case normal=>
  obtain⟨vs,d,b⟩:=Ky hf h;show LeavesInM _ _ _ _ _ _ a.defers _ _;rw[hf.defers];exact⟨_,b,io,vs,rfl,Uh d⟩
 case ret=>
  obtain⟨vs,d,b⟩:=Ky hf h;show LeavesInM _ _ _ _ _ _ a.defers _ _;rw[hf.defers];exact⟨_,b,io,vs,rfl,Uh d⟩
theorem LV {fn:Func}{rs:List SK}{R:eH (eM rs)}{w0:World}{D:Nat}{e:Exit}{ρ:Env}{a:Act}{w:World}(hf:kX [{target:=.collected D,args := #[]}] fn.ntmps ρ a)(io:Xa w0 w)(h:nD P fn rs R D e ρ w.heap) :
 bodyPostM Fence.wide m0 P fn (λe w'=>Xa w0 w'/\∃vs,e=.returned (pack rs vs)/\Sat (eM rs) R vs w'.heap) e a w:=by
 have b:∀{K:List Value->Prop},(sT D w.heap λi=>kU P fn.results.toList rs ρ i λvs=>qw (eM rs) R vs i) →
  LeavesInM Fence.wide m0 P fn a.tmps (λe w'=>Xa w0 w'/\∃vs,e=.returned (pack rs vs)/\Sat (eM rs) R vs w'.heap) a.defers .returning w:=by
  intro K hd;obtain⟨m,g⟩:=hd;rw[hf.d];obtain⟨vs,p,j⟩:=Ky (w:=w.putObj D (.deferred none)) hf.f g;exact⟨by simp,.inl ⟨_,_,rfl,run_takeDeferred m,_,j,io.trans (Ua _ _ _),vs,rfl,Uh p⟩⟩
 cases e<;>simp only[nD]at h
 case normal=>exact b (K:=λ_=>True) h
 case ret=>exact b (K:=λ_=>True) h
theorem E4 {fn:Func}{rs:List SK}{R:eH (eM rs)}{w0:World}:∀(c:Code) {t:TX} {ρ:Env} {a:Act} {w:World},rW P fn rs R c t ρ w.heap->Fits fn.ntmps ρ a->Xa w0 w →
 c.wpIn Fence.wide m0 P (bodyPostM Fence.wide m0 P fn (λe w'=>Xa w0 w'/\∃vs,e=.returned (pack rs vs)/\Sat (eM rs) R vs w'.heap)) a w:=by
 intro c;have K:∀{α:Type} {n:Nat} {enc:α->List Value} (henc:∀y,(enc y).length=n) {r b:Code} {y yb yc:Hn} {id:Nat} {g:Operand} {ps:Array Nat} {asg bd:Code} {ρ:Env} {a:Act} {w:World},
  im P fn.ntmps r y (λe u L=>match e with
   | .normal=>wv (ev u g) λJ=>mg .fn J λM=>fJ (mZ P false b yc) (uE P fn.ntmps n enc M ps asg bd yb u L λs=>im P fn.ntmps b yc (nD P fn rs R L.size) u s)
   | _=>False) ρ w.heap->Fits fn.ntmps ρ a->Xa w0 w →
  (Code.seq (.seq r (.block id (.rangeFunc g ps asg bd))) b).wpIn Fence.wide m0 P (bodyPostM Fence.wide m0 P fn (λe w'=>Xa w0 w'/\∃vs,e=.returned (pack rs vs)/\Sat (eM rs) R vs w'.heap)) a w:=by
  intro α n enc henc r b y yb yc id g ps asg bd ρ a w h hf io;refine wpIn_seq (wpIn_seq (wpIn_wide.2 (Qc r h hf λe u H w' j m S p=>?_)));cases e
  case normal=>
   obtain⟨J,N,B⟩:=Wq p;obtain⟨M,rfl,z⟩:=Vj B;rw[Wu]at z;obtain⟨E,C⟩:=z;refine wpIn_block (GF henc (j.ev _ _ N) j C λY G W U=>?_);have D:kX [{target:=.collected w'.heap.size,args := #[]}] fn.ntmps u {H with defers:={target:=.collected w'.heap.size,args := #[]}::H.defers}:=
    ⟨⟨rfl,j.size,j.at_⟩,by simp only[j.defers]⟩
   exact QK (ro:=none) (ds:=[{target:=.collected w'.heap.size,args := #[]}]) b U E D λe Z V X A F Q=>LV A (((io.trans m).trans G).trans F) Q
  all_goals exact p.elim
 induction c with
 | seq a b iha ihb=>
  intro t ρ act w h hf io;cases t with
  | nx x t=>
   simp only[rW]at h;refine wpIn_seq (wpIn_wide.2 (Qc a h hf λe u H w' j m S p=>?_));cases e
   case normal=>exact ihb p j (io.trans m)
   case ret=>exact UG (m0:=m0) (P:=P) (e:=.ret) (R:=R) j (io.trans m) p
   case exit i=>exact UG (m0:=m0) (P:=P) (e:=.exit i) (R:=R) j (io.trans m) p
   case goto i=>exact UG (m0:=m0) (P:=P) (e:=.goto i) (R:=R) j (io.trans m) p
   case panic i=>exact UG (m0:=m0) (P:=P) (e:=.panic i) (R:=R) j (io.trans m) p
   case outgrown=>exact UG (m0:=m0) (P:=P) (e:=.outgrown) (R:=R) j (io.trans m) p
  | r1 y c yb yc=>
   unfold rW at h;split at h
   case h_1 hx=>cases hx
   case h_2 heq hx=>cases heq;cases hx;exact K (n:=1) (enc:=e1 _) (λ_=>rfl) h hf io
   case h_3 hx=>cases hx
   case h_4=>exact h.elim
  | r2 y c d yb yc=>
   unfold rW at h;split at h
   case h_1 hx=>cases hx
   case h_2 hx=>cases hx
   case h_3 heq hx=>cases heq;cases hx;exact K (n:=2) (enc:=e2 _ _) (λ_=>rfl) h hf io
   case h_4=>exact h.elim
 | _=>intro t ρ act w h hf io;cases t<;>simp[rW]at h
def Dl (P:Program)(fn:Func)(x:TX)(args:List Value)(rs:List SK)(R:eH (eM rs))(h:Hp):Prop:=
 match fn.body with
 | some c=>fJ (Nat.ble args.length fn.ntmps) (rW P fn rs R c x (Hr args) h)
 | none=>False
theorem Br {f:Nat}{fn:Func}{x:TX}{args:List Value}{rs:List SK}{R:eH (eM rs)}{h:Hp}(hfn:P.funcs[f]?=some fn)(hk:Dl P fn x args rs R h):Wc P f args.toArray rs h R:=by
 intro w hw;subst hw;unfold Dl at hk;split at hk
 case h_2=>exact hk.elim
 rename_i c hb;rw[Wu]at hk;obtain⟨b,hk⟩:=hk;have e:args.length<=fn.ntmps:=vv b;refine callsIn_wide.1 (callsIn_of_wp_marks (n:=0) hfn hb trivial (E4 c hk ⟨rfl,by simp;omega,λi v a=>?_⟩ (.refl _)));simp only[Hr]at a;have d:i<args.length:=(cX.1 a).1;rw[uC (by simpa using d)];simpa using a
end Go.Vc
namespace Go.Proofs
open Go.Vc
set_option maxRecDepth 100000
def ZQ.tn (l:Nat)(cap0:Addr)(U:Hp)(R:aP):Prop:=
 kF cap0 U λt4=>
 mW .i64 (.ag 5) t4 U λit v=>
 YC [] (λI=>I v) λJ v1=>
 mV .i64 (.ag 5) it v1 (R v1)
  (λkey val v2=>
  mT .i64 (.ag 5) it v2 λkey1 val1=>
  UF Tryz.prog l [.int .i64 key1] v2 λmore v3=>
  If (!more) (R v3)
   (J v3))
def Z8.tn (l:Nat)(cap0:Addr)(U:Hp)(R:aP):Prop:=
 kF cap0 U λt4=>
 mW .i64 (.ag 4) t4 U λit v=>
 YC [] (λI=>I v) λJ v1=>
 mV .i64 (.ag 4) it v1 (R v1)
  (λkey val v2=>
  mT .i64 (.ag 4) it v2 λkey1 val1=>
  UF Tryz.prog l [.int .i64 key1] v2 λmore v3=>
  If (!more) (R v3)
   (J v3))
def Wi.h:Hn:=.q .o1 (.q (.q .o2 .aK) (.q .o4 .l))
def Wi.v (a:Sl)(b:Hp)(c:Sl->Hp->Prop):Prop:=If a.a.isNone (c ⟨none,0,0⟩ b) (aV #[] 137 b λd e=>App ⟨some d,0,0⟩ 3 24 137 [.I 0,.I 0,.I 0] a e λf g=>c f g)
theorem Wi.o {a b c}(d:Wi.v a b c):Wi.c a b c:=Wa Tryz.func93 (x:=Wi.h) (R0 d)
def WD.h:Hn:=.q .o1 (.q (.q .o2 .aK) (.q .o4 .l))
def WD.v (a:Sl)(b:Hp)(c:Sl->Hp->Prop):Prop:=If a.a.isNone (c ⟨none,0,0⟩ b) (aV #[] 3 b λd e=>App ⟨some d,0,0⟩ 1 8 3 [.I 0] a e λf g=>c f g)
theorem WD.o {a b c}(d:WD.v a b c):WD.c a b c:=Wa Tryz.func98 (x:=WD.h) (R0 d)
def Wj.h:Hn:=.q .o2 (.q .o5 .l)
def Wj.v (a:Sl)(b c:Bool)(d:Hp)(e:aO):Prop:=aV #[.bool b,.bool c] 161 d λf g=>aZ f 0 g λh=>aZ f 1 g λi=>Wn.c a h i g λj k=>e (decide (j≥0)) k
theorem Wj.o {a b c d e}(f:Wj.v a b c d e):Wj.c a b c d e:=Wa Tryz.func130 (x:=Wj.h) (R0 f)
def Wp.h:Hn:=.q .o1 (.q (.q .o2 .aK) (.q .o4 .l))
def Wp.v (a:Sl)(b:Hp)(c:Sl->Hp->Prop):Prop:=If a.a.isNone (c ⟨none,0,0⟩ b) (aV #[] 135 b λd e=>App ⟨some d,0,0⟩ 2 32 135 [.I 0,.slice none 0 0] a e λf g=>c f g)
theorem Wp.o {a b c}(d:Wp.v a b c):Wp.c a b c:=Wa Tryz.func161 (x:=Wp.h) (R0 d)
def Wn.h:Hn:=.q .o2 (.q (.q .o3 (.k (.loop [(8,.I)] (.q .o1 (.q (.c .l .l) (.q (.k (.q .o2 (.q (.oq 6) .aJ))) .o2)))))) .aM)
def Wn.v (a:Sl)(b c:Bool)(d:Hp)(e:aN):Prop:=aV #[.bool b,.bool c] 161 d λf g=>YC [bN] (λh=>h 0 g) λi (j:Int) k=>If (j<((a.len:Nat):Int)) (aZ f 0 k λl=>aZ f 1 k λm=>Ix a.a a.len j 2 λn=>aZ n 0 k λo=>aZ n 1 k λp=>If ((l==o)&&((m==p)&&true)) (e j k) (bL (j+1) λq=>i q k)) (e (-1) k)
theorem Wn.o {a b c d e}(f:Wn.v a b c d e):Wn.c a b c d e:=Wa Tryz.func190 (x:=Wn.h) (R0 f)
def Wl.h:Hn:=.q .o1 (.q (.q .o3 (.k (.loop [(8,.I)] (.q .o1 (.q (.c .l .l) (.q (.k (.q .o2 (.q .o6 .aJ))) .o2)))))) .aM)
def Wl.v (a:Sl)(b:Fv)(c:Hp)(d:aN):Prop:=YC [bN] (λe=>e 0 c) λf (g:Int) h=>If (g<((a.len:Nat):Int)) (Ix a.a a.len g 3 λi=>aQ i 0 h λj=>aQ i 1 h λk=>aQ i 2 h λl=>VE Tryz.prog b [.agg #[.I j,.I k,.I l]] [.one .b] h λm n=>If m (d g n) (bL (g+1) λo=>f o n)) (d (-1) h)
theorem Wl.o {a b c d}(e:Wl.v a b c d):Wl.c a b c d:=Wa Tryz.func202 (x:=Wl.h) (R0 e)
def WP.h:Hn:=.q .o5 (.k (.loop [(2,.I),(3,.I)] (.q (.q .o3 (.c .l .l)) (.q (.k (.cS (.held true [13,15] (.tk [0,1,2,3,4,5,6,7,8,9,10,11,12] (.all [(13,.take 14 (.all [(15,.done)]))]))))) .o6))))
def WP.v (a:Sl)(b:Hp)(c:aP):Prop:=bL (((a.len:Nat):Int)-1) λd=>YC [bN,bN] (λe=>e 0 d b) λf (g:Int) (h:Int) i=>If (g<h) (eN i λj=>Ix a.a a.len h 1 λk=>fV j bN k λ(l:Int)=>Ix a.a a.len g 1 λm=>fV j bN m λ(n:Int)=>Ix a.a a.len g 1 λo=>eP o (.I l) i λp=>Ix a.a a.len h 1 λq=>eP q (.I n) p λr=>bL (g+1) λs=>bL (h-1) λt=>f s t r) (c i)
theorem WP.o {a b c}(d:WP.v a b c):WP.c a b c:=Wa Tryz.func211 (x:=WP.h) (R0 d)
def We.h:Hn:=.q .o1 (.q .o4 (.q (.q .o2 .aJ) (.q (.q .o3 (.k (.loop [(5,.I),(6,.I)] (.q (.q .o4 (.c .l .l)) (.q (.k (.q .o6 (.q .o4 (.c (.q .o5 .o3) .l)))) .o3))))) (.q .o4 (.q .o4 .l)))))
def We.v (a:Sl)(b:Fv)(c:Hp)(d:Sl->Hp->Prop):Prop:=Wh.c a b c λe f=>If (e==(-1)) (d a f) (bL (e+1) λg=>YC [bN,bN] (λh=>h e g f) λi (j:Int) (k:Int) l=>If (k<((a.len:Nat):Int)) (Ix a.a a.len k 3 λm=>aQ m 0 l λn=>aQ m 1 l λo=>aY m 2 l λp=>aV #[.I 0,.I 0,.pointer none] 262 l λq r=>aR q 0 (.I n) r λs=>aR q 1 (.I o) s λt=>aR q 2 (.pointer p) t λu=>aQ q 0 u λv=>aQ q 1 u λw=>aY q 2 u λx=>VE Tryz.prog b [.agg #[.I v,.I w,.pointer x]] [.one .b] u λy z=>If (!y) (aQ q 0 z λaa=>aQ q 1 z λab=>aY q 2 z λac=>Ix a.a a.len j 3 λad=>aR ad 0 (.I aa) z λae=>aR ad 1 (.I ab) ae λaf=>aR ad 2 (.pointer ac) af λag=>bL (j+1) λah=>bL (k+1) λai=>i ah ai ag) (bL (k+1) λaj=>i j aj z)) (eY a 3 j (a.len:Nat) (a.cap:Nat) λak=>yF ak [.I 0,.I 0,.pointer none] l λal=>eY a 3 0 j (a.cap:Nat) λam=>d am al))
theorem We.o {a b c d}(e:We.v a b c d):We.c a b c d:=Wa Tryz.func222 (x:=We.h) (R0 e)
def Wk.h:Hn:=.q .o1 (.q (.q .o3 (.k (.loop [(8,.I)] (.q .o1 (.q (.c .l .l) (.q (.k (.q .o2 (.q .o6 .aJ))) .o2)))))) .aM)
def Wk.v (a:Sl)(b:Fv)(c:Hp)(d:aN):Prop:=YC [bN] (λe=>e 0 c) λf (g:Int) h=>If (g<((a.len:Nat):Int)) (Ix a.a a.len g 1 λi=>fQ i h λj=>VE Tryz.prog b [.pointer j] [.one .b] h λk l=>If k (d g l) (bL (g+1) λm=>f m l)) (d (-1) h)
theorem Wk.o {a b c d}(e:Wk.v a b c d):Wk.c a b c d:=Wa Tryz.func249 (x:=Wk.h) (R0 e)
def Wb.h:Hn:=.q .o2 (.q .o3 (.q .o3 (.q (.k (.loop [(9,.I),(10,.I)] (.q (.q .o3 (.c .l .l)) (.k (.q .o7 (.q .o8 (.c .o3 .o2))))))) (.q (.cS (.seq [.op,.op,.op,.op,.op,.cO true 8 (RI.ops 8),.op,.op])) .l))))
def Wb.v (a:Sl)(b:Int)(c:Fv)(d:Hp)(e:Int->Bool->Hp->Prop):Prop:=YC [bN,bN] (λf=>f 0 ((a.len:Nat):Int) d) λg (h:Int) (i:Int) j=>If (h<i) (bL (h+i) λk=>Ar .u64 k λl=>Nn (1:Int) <| bL (l.fdiv (2^(min (1:Int).toNat IntKind.u64.bits))) λm=>Ix a.a a.len m 3 λn=>aQ n 0 j λo=>aQ n 1 j λp=>aY n 2 j λq=>VE Tryz.prog c [.agg #[.I o,.I p,.pointer q],.I b] [.I] j λr s=>If (r<0) (bL (m+1) λt=>g t i s) (g h m s)) (bR (λu v=>e h u v) λw=>If (h<((a.len:Nat):Int)) (Ix a.a a.len h 3 λx=>aQ x 0 j λy=>aQ x 1 j λz=>aY x 2 j λaa=>VE Tryz.prog c [.agg #[.I y,.I z,.pointer aa],.I b] [.I] j λab ac=>w (ab==0) ac) (w false j))
theorem Wb.o {a b c d e}(f:Wb.v a b c d e):Wb.c a b c d e:=Wa Tryz.func258 (x:=Wb.h) (R0 f)
def Wf.h:Hn:=.q .o1 (.q .o3 (.q .o3 (.q (.q .o2 .aJ) (.q .o3 (.q (.q .o3 (.c (.q .o4 .l) .l)) (.q (.q .o6 (.c (.q .gG (.q .o5 (.q (.cS (.tail 8 (RI.ops 8) [.op])) .aL))) .l)) (.q .o6 (.q (.q .o8 (.c (.q (.cS (.tail 8 (RI.ops 8) [.op])) (.q .o5 .aL)) .l)) (.q .o5 (.q .o5 .aL))))))))))
def Wf.v (a:Sl)(b:Int)(c:Sl)(d:Hp)(e:Sl->Hp->Prop):Prop:=eY a 3 b (a.len:Nat) (a.cap:Nat) λf=>If (((c.len:Nat):Int)==0) (e a d) (If (b==((a.len:Nat):Int)) (App a 3 24 262 [.I 0,.I 0,.pointer none] c d λg h=>e g h) (bL (((a.len:Nat):Int)+((c.len:Nat):Int)) λi=>If (i>((a.cap:Nat):Int)) (eY a 3 0 b (a.cap:Nat) λj=>bL (((a.len:Nat):Int)+((c.len:Nat):Int)) λk=>bL (k-b) λl=>qJ j 3 24 262 [.I 0,.I 0,.pointer none] l d λm n=>eY m 3 b (m.len:Nat) (m.cap:Nat) λo=>qY o 3 c n λp q=>bL (b+((c.len:Nat):Int)) λr=>eY m 3 r (m.len:Nat) (m.cap:Nat) λs=>eY a 3 b (a.len:Nat) (a.cap:Nat) λt=>qY s 3 t q λu v=>e m v) (bL (((a.len:Nat):Int)+((c.len:Nat):Int)) λw=>eY a 3 0 w (a.cap:Nat) λx=>bL (b+((c.len:Nat):Int)) λy=>eY x 3 y (x.len:Nat) (x.cap:Nat) λz=>qN Tryz.prog 288 [.slice c.a c.len c.cap,.slice z.a z.len z.cap] d λaa ab=>If (!aa) (bL (b+((c.len:Nat):Int)) λac=>eY x 3 ac (x.len:Nat) (x.cap:Nat) λad=>eY x 3 b (x.len:Nat) (x.cap:Nat) λae=>qY ad 3 ae ab λaf ag=>eY x 3 b (x.len:Nat) (x.cap:Nat) λah=>qY ah 3 c ag λai aj=>e x aj) (eY x 3 ((a.len:Nat):Int) (x.len:Nat) (x.cap:Nat) λak=>qY ak 3 c ab λal am=>eY x 3 b (x.len:Nat) (x.cap:Nat) λan=>Q1.c an ((c.len:Nat):Int) am λao=>e x ao))))
theorem Wf.o {a b c d e}(f:Wf.v a b c d e):Wf.c a b c d e:=Wa Tryz.func260 (x:=Wf.h) (R0 f)
def Xd.h:Hn:=.q .o1 (.q .o7 .l)
def Xd.v (a:Sl)(b:Hp)(c:Sl->Hp->Prop):Prop:=eY a 1 0 ((a.len:Nat):Int) ((a.len:Nat):Int) λd=>c d b
theorem Xd.o {a b c}(d:Xd.v a b c):Xd.c a b c:=Wa Tryz.func261 (x:=Xd.h) (R0 d)
def Wh.h:Hn:=.q .o1 (.q (.q .o3 (.k (.loop [(8,.I)] (.q .o1 (.q (.c .l .l) (.q (.k (.q .o2 (.q .o6 .aJ))) .o2)))))) .aM)
def Wh.v (a:Sl)(b:Fv)(c:Hp)(d:aN):Prop:=YC [bN] (λe=>e 0 c) λf (g:Int) h=>If (g<((a.len:Nat):Int)) (Ix a.a a.len g 3 λi=>aQ i 0 h λj=>aQ i 1 h λk=>aY i 2 h λl=>VE Tryz.prog b [.agg #[.I j,.I k,.pointer l]] [.one .b] h λm n=>If m (d g n) (bL (g+1) λo=>f o n)) (d (-1) h)
theorem Wh.o {a b c d}(e:Wh.v a b c d):Wh.c a b c d:=Wa Tryz.func268 (x:=Wh.h) (R0 e)
def Ww.h:Hn:=.q .o1 (.q .o5 .l)
def Ww.v (a:Sl)(b:Fv)(c:Hp)(d:aO):Prop:=WO.c a b c λe f=>d (decide (e≥0)) f
theorem Ww.o {a b c d}(e:Ww.v a b c d):Ww.c a b c d:=Wa Tryz.func270 (x:=Ww.h) (R0 e)
def Wo.h:Hn:=.q .o1 (.q .o5 .l)
def Wo.v (a:Sl)(b:Int)(c:Hp)(d:aO):Prop:=WC.c a b c λe f=>d (decide (e≥0)) f
theorem Wo.o {a b c d}(e:Wo.v a b c d):Wo.c a b c d:=Wa Tryz.func272 (x:=Wo.h) (R0 e)
def XI.h:Hn:=.q .o1 (.jT [] (.q .o3 (.c .o2 .l)) (.q .o4 (.q (.q .o1 (.k (.loop [(3,.I),(4,.I)] (.q (.q .o4 (.c .l .l)) (.q (.k .o7) .o3))))) .aL)))
def XI.v (a:Sl)(b:Hp)(c:aN):Prop:=Jn [] (λd=>Ix a.a a.len 0 1 λe=>bM e d λf=>YC [bN,bN] (λg=>g f 1 d) λh (i:Int) (j:Int) k=>If (j<((a.len:Nat):Int)) (Ix a.a a.len j 1 λl=>bM l k λm=>bL (j+1) λn=>h (if m<i then m else i) n k) (c i k)) λo=>If (((a.len:Nat):Int)<1) (False) (o b)
theorem XI.o {a b c}(d:XI.v a b c):XI.c a b c:=Wa Tryz.func284 (x:=XI.h) (R0 d)
def WO.h:Hn:=.q .o1 (.q (.q .o3 (.k (.loop [(8,.I)] (.q .o1 (.q (.c .l .l) (.q (.k (.q .o2 (.q .o6 .aJ))) .o2)))))) .aM)
def WO.v (a:Sl)(b:Fv)(c:Hp)(d:aN):Prop:=YC [bN] (λe=>e 0 c) λf (g:Int) h=>If (g<((a.len:Nat):Int)) (Ix a.a a.len g 1 λi=>bM i h λj=>VE Tryz.prog b [.I j] [.one .b] h λk l=>If k (d g l) (bL (g+1) λm=>f m l)) (d (-1) h)
theorem WO.o {a b c d}(e:WO.v a b c d):WO.c a b c d:=Wa Tryz.func302 (x:=WO.h) (R0 e)
def WC.h:Hn:=.q .o1 (.q (.q .o3 (.k (.loop [(8,.I)] (.q .o1 (.q (.c .l .l) (.q (.k (.q .o2 (.q .o6 .aJ))) .o2)))))) .aM)
def WC.v (a:Sl)(b:Int)(c:Hp)(d:aN):Prop:=YC [bN] (λe=>e 0 c) λf (g:Int) h=>If (g<((a.len:Nat):Int)) (Ix a.a a.len g 1 λi=>bM i h λj=>If (b==j) (d g h) (bL (g+1) λk=>f k h)) (d (-1) h)
theorem WC.o {a b c d}(e:WC.v a b c d):WC.c a b c d:=Wa Tryz.func303 (x:=WC.h) (R0 e)
def QN.tn (l:Nat)(cap0:Addr)(U:Hp)(R:aP):Prop:=
 kF cap0 U λt4=>
 mW .i64 .b t4 U λit v=>
 YC [] (λI=>I v) λJ v1=>
 mV .i64 .b it v1 (R v1)
  (λkey val v2=>
  mT .i64 .b it v2 λkey1 val1=>
  UF Tryz.prog l [.int .i64 key1] v2 λmore v3=>
  If (!more) (R v3)
   (J v3))
def Wg.h:Hn:=.q .o1 (.q .o5 .l)
def Wg.v (a:Sl)(b:Fv)(c:Hp)(d:aO):Prop:=Wm.c a b c λe f=>d (decide (e≥0)) f
theorem Wg.o {a b c d}(e:Wg.v a b c d):Wg.c a b c d:=Wa Tryz.func308 (x:=Wg.h) (R0 e)
def Wm.h:Hn:=.q .o1 (.q (.q .o3 (.k (.loop [(8,.I)] (.q .o1 (.q (.c .l .l) (.q (.k (.q .o2 (.q .o6 .aJ))) .o2)))))) .aM)
def Wm.v (a:Sl)(b:Fv)(c:Hp)(d:aN):Prop:=YC [bN] (λe=>e 0 c) λf (g:Int) h=>If (g<((a.len:Nat):Int)) (Ix a.a a.len g 2 λi=>aZ i 0 h λj=>aZ i 1 h λk=>VE Tryz.prog b [.agg #[.bool j,.bool k]] [.one .b] h λl m=>If l (d g m) (bL (g+1) λn=>f n m)) (d (-1) h)
theorem Wm.o {a b c d}(e:Wm.v a b c d):Wm.c a b c d:=Wa Tryz.func322 (x:=Wm.h) (R0 e)
end Go.Proofs
namespace Go.Bu
open Go Go.Vc Go.Proofs
variable {U:Hp}{p n sb:Nat}{S:Nat->Bool}{ms:List Nat}
theorem lK {k:Nat}{K:Int->Prop}(hk:k<=62)(hK:K ((2^k:Nat):Int)):Nn (k:Int) (Ar .i64 (1*2^(min (k:Int).toNat IntKind.i64.bits)) K):=by
 refine nn O ?_;rw[Cx hk];exact cQ aA (Cy hk) hK
theorem rz {x k j:Nat}{K:Int->Prop}(hj:j=k)(hk:k<=62)(hx:x<=4611686018427387904)(hK:K ((x/2^k*2^k:Nat):Int)) :
 Ar .i64 (((x:Int).fdiv (2^(min (k:Int).toNat IntKind.i64.bits)))*2^(min (j:Int).toNat IntKind.i64.bits)) K:=by
 subst hj;rw[Cx hk,Du];refine cQ aA ?_ hK;exact ky (vS _ _) hx
theorem BH.rN (h:BH U p n S sb ms){K:Int->Prop}(hK:K (n:Int)):gP .i64 (Addr.add ⟨p,0,none⟩ 0) U K:=my h.FM hK
theorem BH.rB (h:BH U p n S sb ms){K:Sl->Prop}(hK:∀cap,K ⟨some ⟨sb,0,none⟩,ms.length,cap⟩):ja (Addr.add ⟨p,0,none⟩ 1) U K:=by
 obtain⟨cap,a⟩:=h.mO;rw[add_lit];exact m4 a (hK cap)
theorem BH.rM (h:BH U p n S sb ms){k m:Nat}(hm:ms[k]?=some m){K:Option Nat->Prop}(hK:K (some m)):Ix (some ⟨sb,0,none⟩) ms.length (k:Int) 1 λa=>kF a U K:=by
 refine ix O (by have:=(cX.1 hm).1;omega) ?_;rw[add_lit];refine CA ?_ hK;have:=h.Ih hm;simpa using this
theorem yS (h:BH U p n S sb ms){R:aO}(hR:R true U):XR.c (aW p) U R:=by
 refine XR.o ?_;unfold XR.v;refine bR.intro (cB rfl (aG (h.rN ?_)));have:=h.n1;rw[zK O];exact hR
def Y4 (n:Nat)(start aF:Int):Bool:=decide (0<=start)&&(decide (1<=aF)&&decide (aF<=n-start))
theorem Lx (h:BH U p n S sb ms)(start aF:Int){R:aN}(h0:Y4 n start aF=true->R 0 U)(h1:Y4 n start aF=false->R 1 U):Ys.c (aW p) start aF U R:=by
 refine Ys.o ?_;unfold Ys.v;have a:¬(0<=start/\1<=aF/\aF<=n-start)->R 1 U:=λd=>h1 (by simp only[Y4,←sW];exact zM d);have n1:=h.n1;have n2:=h.n2;refine yS h (cE rfl (bR.intro ?_));refine cR (λh1=>bR.intro (cB rfl (bR.intro (cB rfl (cB rfl (a O)))))) λh1=>?_;refine bR.intro (cR (λg=>bR.intro (cB rfl (cB rfl (a O)))) λg=>?_);refine aG (h.rN ?_);refine bR.intro (cR (λb=>cB rfl (a O)) λb=>?_);refine aG (h.rN (ar O O ?_));refine cR (λe=>a O) λe=>h0 ?_;simp only[Y4,zE,zS];omega
theorem A9 (h:BH U p n S sb ms)(x:Nat)(hx:x<=4611686018427387904){R:Int->Int->Bool->Hp->Prop}
 (h1:∀k q,can S k q=true->x/2^k=q->R (k:Int) ((q*2^k:Nat):Int) true U) (h0:S x=false->R 0 0 false U):Xn.c (aW p) (x:Int) U R:=by
 refine Xn.o ?_;unfold Xn.v;refine aG (h.rB λcap=>?_);refine Z5 (a:=bN) (λt u=>∃k:Nat,t=(k:Int)/\k<=ms.length/\u=U/\∀j,j<k->can S j (x/2^j)=false) (λt _=>ms.length-t.toNat) ⟨0,rfl,O,rfl,λj d=>O⟩ ?_;rintro t u ⟨k,rfl,y,rfl,b⟩;have w:=h.len;refine cR (λr=>?_) (λg=>?_)
 ·simp only at r;obtain⟨m,s⟩:=h.get (k:=k) O;refine h.rM s (nn O (nn O (rz rfl O hx (h.lk s rfl ?_))));cases hc:can S k (x/2^k)
  ·refine cE aA (cQ (m:=k+1) O O ?_);refine⟨⟨k+1,rfl,O,rfl,λj d=>?_⟩,O⟩;by_cases e:j=k
   ·rw[e];exact hc
   ·exact b j O
  ·exact cB aA (h1 k _ hc rfl)
 ·simp only at g;refine h0 ?_;cases hs:S x
  ·rfl
  ·obtain⟨j,d⟩:=V2 h.iZ hs;have:=h.fits (Zx h.iZ (Zn.1 d).1);rw[b j O]at d;cases d
def kH (S:Nat->Bool)(x:Int):Bool:=decide (0<=x)&&S x.toNat
theorem F0 (h:BH U p n S sb ms)(x:Int){R:aO}(hR:R (kH S x) U):Yb.c (aW p) x U R:=by
 refine Yb.o ?_;unfold Yb.v;have n2:=h.n2;refine yS h (bR.intro (cE rfl ?_));refine bR.intro (cR (λi=>cB rfl ?_) λi=>aG (h.rN ?_))
 ·have:kH S x=false:=by simp[kH];intro;omega
  rw[this]at hR;exact hR
 ·refine cR (λg=>?_) λg=>?_
  ·have:kH S x=false:=by
    simp only[kH];cases a:S x.toNat
    ·simp
    ·have:=h.iZ _ a;omega
   rw[this]at hR;exact hR
  ·obtain⟨y,rfl⟩:=zY (show 0<=x by omega);have e:kH S (y:Int)=S y:=by simp[kH]
   rw[e]at hR;refine A9 h y O (λk q d b=>?_) λa=>?_
   ·rw[Vp d b]at hR;exact hR
   ·rw[a]at hR;exact hR
theorem OC {k q:Nat}(h:BH U p n S sb ms)(hf:q*2^k+2^k<=n)(hd:∀x,x/2^k=q->S x=false){R:aP}
 (hR:∀σ',Ext (· ∈ ms) U σ'->BH σ' p n (ins S k q) sb ms->R σ'):YT.c (aW p) (k:Int) ((q*2^k:Nat):Int) U R:=by
 refine YT.o ?_;unfold YT.v;refine HD (a:=bN) (bb:=bN)
  (λo s B=>∃(j r:Nat) (T:Nat->Bool),o=(j:Int)/\s=((r*2^j:Nat):Int)/\r*2^j+2^j<=n/\BH B p n T sb ms/\Ext (· ∈ ms) U B/\(∀x,x/2^j=r->T x=false)/\ins T j r=ins S k q)
  (λo _ _=>ms.length-o.toNat) ⟨k,q,S,rfl,rfl,hf,h,Ext.refl _ _,hd,rfl⟩ ?_
 rintro o s B ⟨j,r,T,rfl,rfl,z,d,P,A,w⟩;have Y:=d.len;have Q:=d.fits z;have X:=d.n2;have V:=ka j;obtain⟨m,C⟩:=d.get Q;have y:¬full (ins T j r) (j+1) (r/2)=true->(bT (some ⟨p,0,none⟩) λJ=>ja (J.add 1) B λE=>Ix E.a E.len (j:Int) 1 λM=>kF M B λH=>j2 .i64 .b H ((r*2^j:Nat):Int) true B λv3=>R v3):=by
  intro g;refine aG (d.rB λcap=>d.rM C ?_);refine d.tC C A g z rfl λD e K=>hR D (P.trans e) ?_;rw[←w];exact K
 refine cQ (m:=j+1) O O (aG (d.rB λcap=>bR.intro ?_));refine cR (λG=>?_) (λL=>?_)
 ·simp only at G;refine aG (d.rB λcap=>d.rM C (lK O ?_));have N:=Cy (show j<=62 by omega);have F:bits .xor .i64 ((r*2^j:Nat):Int) ((2^j:Nat):Int)=((gM r*2^j:Nat):Int):=by
   rw[I5 O O,N1]
  rw[F];refine d.lk C rfl ?_;cases hc:can T j (gM r)
  ·refine cE aA (y (LC A (by simp[hc])))
  ·refine cB aA ?_;refine aG (d.rB λcap=>d.rM C (lK O ?_));rw[F];refine d.qh C hc rfl λD e K=>?_;refine cQ (m:=j+1) O O (nn O (cQ (m:=j+1) O O (nn O ?_)));refine rz rfl O O ?_;refine cQ (m:=j+1) O O ⟨⟨j+1,r/2,del T j (gM r),rfl,?_,?_,K,P.trans e,?_,?_⟩,O⟩
   ·rw[lP,←rG,Kb]
   ·-- both halves lie within
    have u:=Zx d.iZ (Zn.1 hc).1;have e2:r/2*2^(j+1)=(r/2*2)*2^j:=by rw[lP,Nat.mul_comm (2^j) 2,←uK]
    rw[e2,lP];have g:(r/2*2)+1=r\/(r/2*2)+1=gM r:=by unfold gM;split<;>omega
    have W:(r/2*2)*2^j+2^j*2=((r/2*2)+1)*2^j+2^j:=by rw[zk];omega
    rw[W];rcases g with e4|e4<;>rw[e4]<;>assumption
   ·intro x F;rcases UA.1 F with u|u
    ·simp[del,A x u]
    ·simp[del,u]
   ·rw[←w];refine GC λx=>?_;rw[KW,KW,KY,UA];by_cases u:x/2^j=gM r
    ·simp[u,Vp hc u]
    ·simp[u]
 ·simp only at L;refine cE rfl (y λg=>?_);have:=Zx (DK d.iZ z) g;have u:2^ms.length<=2^(j+1):=nZ aB O;have:=d.hi;omega
theorem yw {a m:Nat}(h:BH U p n S sb ms)(hf:a+m<=n)(hd:∀x,a<=x->x<a+m->S x=false){R:aP}
 (hR:∀σ',Ext (· ∈ ms) U σ'->BH σ' p n (dA S a (a+m)) sb ms->R σ'):XN.c (aW p) (a:Int) (m:Int) U R:=by
 refine XN.o ?_;unfold XN.v;have P:=h.n2;refine HD (a:=bN) (bb:=bN)
  (λs c w=>∃(a' g:Nat),s=(a':Int)/\c=(g:Int)/\a<=a'/\a'+g=a+m/\BH w p n (dA S a a') sb ms/\Ext (· ∈ ms) U w)
  (λ_ c _=>c.toNat) ⟨a,m,rfl,rfl,O,rfl,by rw[Oq];exact h,Ext.refl _ _⟩ ?_
 rintro s c w ⟨a',g,rfl,rfl,B,K,E,H⟩;refine cR (λF=>?_) (λW=>?_)
 ·refine Z5 (a:=bN) (λk u=>∃j q:Nat,k=(j:Int)/\a'=q*2^j/\2^j<=g/\u=w) (λk _=>12-k.toNat) ⟨0,a',rfl,by simp,by simp;omega,rfl⟩ ?_;rintro k u ⟨j,q,rfl,N,J,rfl⟩;have V:j<=10:=by
   apply Classical.byContradiction;intro hc;have:2^11<=2^j:=nZ aB O;omega
  refine cQ (m:=j+1) O O (nn O (cQ (m:=j+1) O O (nn O ?_)));refine rz rfl O O (bR.intro ?_);have r:(YT.c (aW p) (j:Int) (a':Int) u λv3=>
   Nn (j:Int)<|Ar .i64 (1*2^(min (j:Int).toNat IntKind.i64.bits)) λC=>Ar .i64 ((a':Int)+C) λd=>
   Nn (j:Int)<|Ar .i64 (1*2^(min (j:Int).toNat IntKind.i64.bits)) λA=>Ar .i64 ((g:Int)-A) λb=>
   (∃(a'' m'':Nat),d=(a'':Int)/\b=(m'':Int)/\a<=a''/\a''+m''=a+m/\BH v3 p n (dA S a a'') sb ms/\Ext (· ∈ ms) U v3)/\b.toNat<(g:Int).toNat):=by
   subst N;refine OC E O (λx M=>?_) λv3 e y=>?_
   ·have:=ZT.1 M;have Q:=hd x O O;simp only[dA,Q,vU];rw[zM (show ¬x<q*2^j by omega),qV]
   ·have z:=ka j;refine lK O (cQ (m:=q*2^j+2^j) O O (lK O (cQ (m:=g-2^j) O O ?_)));refine⟨⟨_,_,rfl,rfl,O,O,?_,H.trans e⟩,O⟩;rw[Pa,Oj B O]at y;exact y
  refine cY (λG=>?_) (λG=>cE rfl r);have D:a'/2^(j+1)*2^(j+1)=a':=by
   have:=zV.1 G
   exact_mod_cast this
  refine cQ (m:=j+1) O O (lK O ?_);refine cR (λL=>?_) λ_=>r;refine cQ (m:=j+1) O O ⟨⟨j+1,a'/2^(j+1),rfl,D.symm,O,rfl⟩,O⟩
 ·have:g=0:=by omega
  subst this;have:a'=a+m:=by omega
  subst this;exact hR w H E
theorem JC {a m:Nat}(h:BH U p n S sb ms)(hf:a+m<=n)(hd:∀x,a<=x->x<a+m->S x=true){R:aP}
 (hR:∀σ',Ext (· ∈ ms) U σ'->BH σ' p n (take S a (a+m)) sb ms->R σ'):Zd.c (aW p) (a:Int) (m:Int) U R:=by
 refine Zd.o ?_;unfold Zd.v;have Z:=h.n2;refine Z5 (a:=bN) (λs w=>∃x:Nat,s=(x:Int)/\a<=x/\BH w p n (take S a (min x (a+m))) sb ms/\Ext (· ∈ ms) U w)
  (λs _=>a+m-s.toNat) ⟨a,rfl,O,by rw[oR O,MH];exact h,Ext.refl _ _⟩ ?_
 rintro s w ⟨x,rfl,D,d,K⟩;refine cQ (m:=a+m) O O ?_;refine cR (λM=>?_) (λX=>?_)
 ·rw[oR O]at d;have V:take S a x x=true:=Kf.2 ⟨hd x D O,O⟩;refine A9 d x O (λk q F W=>?_) (λg=>by rw[V]at g;cases g);have z:=Zx d.iZ (Zn.1 F).1;have Q:=d.fits z;have hl:=d.len;obtain⟨mm,J⟩:=d.get Q;have L:=ZT.1 W;refine aG (d.rB λcap=>d.rM J ?_);refine d.qh J F rfl λh1 e1 B=>?_;refine lK O (cQ (m:=q*2^k+2^k) O O (cQ (m:=x-q*2^k) O O ?_));refine yw B O (λy C H=>?_) λh2 e2 e=>?_
  ·have:y/2^k=q:=ZT.2 O;simp[del,this]
  ·have u:=(K.trans e1).trans e2;rw[show q*2^k+(x-q*2^k)=x by omega]at e;have j:∀y,q*2^k<=y/\y<q*2^k+2^k->S y=true/\¬(a<=y/\y<x):=λy b=>Kf.1 (Vp F (ZT.2 b));refine cQ (m:=a+m) O O (cR (λP=>?_) λN=>?_)
   ·refine cQ (m:=q*2^k+2^k-(a+m)) O O ?_;refine yw e O (λy C H=>?_) λh3 Y r=>?_
    ·have:y/2^k=q:=ZT.2 O;have G:¬y<x:=by omega
     simp[dA,del,this,G]
    ·refine⟨⟨_,rfl,O,?_,u.trans Y⟩,O⟩;rw[Nat.min_eq_right O];have:dA (dA (del (take S a x) k q) (q*2^k) x) (a+m) (a+m+(q*2^k+2^k-(a+m)))=take S a (a+m):=by
      refine GC λy=>?_;have b:=j y;simp only[QV,KY,Kf,Ne,ZT];generalize q*2^k=A at *;generalize 2^k=E at *;cases g:S y
      ·rw[g]at b;simp only[za,false_and,false_or,iff_false,imp_false]at b ⊢;omega
      ·rw[g]at b;simp only[rU]at b ⊢;omega
     rw[this]at r;exact r
   ·refine⟨⟨_,rfl,O,?_,u⟩,O⟩;rw[oR O];have:dA (del (take S a x) k q) (q*2^k) x=take S a (q*2^k+2^k):=by
     refine GC λy=>?_;have b:=j y;simp only[QV,KY,Kf,Ne,ZT];generalize q*2^k=A at *;generalize 2^k=E at *;cases g:S y
     ·rw[g]at b;simp only[za,false_and,false_or,iff_false,imp_false]at b ⊢;omega
     ·rw[g]at b;simp only[rU]at b ⊢;omega
    rw[this]at e;exact e
 ·rw[Nat.min_eq_right O]at d;exact hR w K d
def oh (S:Nat->Bool)(a m:Nat):Bool:=(List.range m).all λi=>!S (a+i)
theorem KG {S:Nat->Bool}{a m:Nat}:oh S a m=true↔∀x,a<=x->x<a+m->S x=false:=by
 simp only[oh,zr,zh,lx];exact⟨λh x b e=>by have:=h (x-a) O;rwa [show a+(x-a)=x by omega]at this,λh i d=>h _ O O⟩
theorem OD {S:Nat->Bool}{a m x:Nat}(h1:a<=x)(h2:x<a+m)(h:S x=true):oh S a m=false:=by
 cases e:oh S a m
 ·rfl
 ·rw[KG.1 e x h1 h2]at h;cases h
def wo (n:Nat)(S:Nat->Bool)(a m:Int):Int:=if Y4 n a m then(if oh S a.toNat m.toNat then 0 else 9)else 1
def Ql (n:Nat)(S:Nat->Bool)(a m:Int):Nat->Bool:=if Y4 n a m&&oh S a.toNat m.toNat then dA S a.toNat (a.toNat+m.toNat)else S
theorem Iy {n:Nat}{a m:Int}(h:Y4 n a m=true):∃x y:Nat,a=(x:Int)/\m=(y:Int)/\1<=y/\x+y<=n:=by
 simp only[Y4,zE,zS]at h;exact⟨a.toNat,m.toNat,O,O,O,O⟩
theorem oW (h:BH U p n S sb ms)(a m:Int){R:aN}
 (hR:∀σ',Ext (· ∈ ms) U σ'->BH σ' p n (Ql n S a m) sb ms->R (wo n S a m) σ'):XU.c (aW p) a m U R:=by
 refine XU.o ?_;unfold XU.v;have D:=h.n2;refine Lx h a m (λb=>cE rfl ?_) (λb=>cB rfl ?_)
 ·obtain⟨x,y,rfl,rfl,G,s⟩:=Iy b;refine Z5 (a:=bN) (λt w=>∃z:Nat,t=(z:Int)/\x<=z/\w=U/\∀u,x<=u->u<z->S u=false) (λt _=>x+y-t.toNat) ⟨x,rfl,O,rfl,λu _ _=>O⟩ ?_;rintro t w ⟨z,rfl,F,rfl,g⟩;refine cQ (m:=x+y) O O ?_;refine cR (λC=>F0 h _ ?_) (λB=>?_)
  ·have e:kH S (z:Int)=S z:=by simp[kH]
   rw[e];cases hs:S z
   ·refine cE rfl (cQ (m:=z+1) O O ⟨⟨z+1,rfl,O,rfl,λu r E=>?_⟩,O⟩);by_cases e:u=z
    ·rw[e];exact hs
    ·exact g u r O
   ·refine cB rfl ?_;have j:=OD (m:=y) F O hs;have:=hR w (Ext.refl _ _);simp only[wo,Ql,b,dC,j,qV,zP,za,zp]at this;exact this h
  ·have d:∀u,x<=u->u<x+y->S u=false:=λu r E=>g u r O;have j:=KG.2 d;refine yw h s d λr e1 A=>?_;have:=hR r e1;simp only[wo,Ql,b,dC,j,sK,zP]at this;exact this A
 ·have:=hR U (Ext.refl _ _);simp only[wo,Ql,b,sR,za,zp]at this;exact this h
end Go.Bu
namespace Go.Ar
open Go.Bu
def sM (n:Nat)(h:Int):Bool:=decide (0<=h)&&decide (h<((n/16:Nat):Int))
def j6 (st:List Nat)(h:Int):Int:=if sM st.length h then(if st.getD (16*h.toNat) 0=0 then 0 else 5)else 1
def iE (st:List Nat)(h:Int):List Nat:=if j6 st h=0 then fW st (16*h.toNat) (16*h.toNat+16) 3 else st
def sq (st:List Nat)(a m:Nat)(fr:List Nat):Bool:=((st.drop a).take m).all fr.contains
def Gz (st:List Nat)(a m:Int)(fr:List Nat):Int:=if Y4 st.length a m then(if sq st a.toNat m.toNat fr then 0 else 5)else 1
def VW (st:List Nat)(a m:Int)(v:Nat)(fr:List Nat):List Nat:=if Gz st a m fr=0 then fW st a.toNat (a.toNat+m.toNat) v else st
def Iw (st:List Nat)(h:Nat):Nat:=if qT st (16*h) (16*h+16) 1=0 then 0 else if 0<qT st (16*h) (16*h+16) 3 then 1 else 2
def Py (st:List Nat)(k:Nat):List Nat:=(List.range (st.length/16)).filter λh=>st.getD (16*h) 0 != 0&&Iw st h==k
def used (st:List Nat)(h:Nat):Nat:=qT st (16*h) (16*h+16) 1
structure Sp where
 st:List Nat
 wd:Nat->Int
 pk:Nat
def Sp.set (s:Sp)(a m v:Nat):Sp:={s with st:=fW s.st a (a+m) v,wd:=λw=>if a*32<=w/\w<(a+m)*32 then 0 else s.wd w}
def eT (s:Sp)(a m:Int):Int:=if Y4 s.st.length a m then(if((s.st.drop a.toNat).take m.toNat).any (· != 0)then 5 else 0)else 1
def fN (s:Sp)(a m:Int):Sp:=if eT s a m=0 then s.set a.toNat m.toNat 1 else s
def fG (s:Sp)(x:Int):Int:=if x<0\/x%8≠0 then 7 else if s.st.getD (x.toNat/256) 0=0 then 7 else 0
def mr (s:Sp)(w:Nat)(v:Int):Sp:=
 {st:=s.st.set (w/32) 2,wd:=λu=>if u=w then v else s.wd u,pk:=if s.st.getD (w/32) 0=2 then s.pk else max s.pk ((s.st.set (w/32) 2).count 2)}
def ZL (s:Sp)(x v:Int):Sp:=if fG s x=0 then mr s (x.toNat/8) v else s
end Go.Ar
namespace Go.Ar
structure Li where
 os:List Int
 lim:Nat
 low:Nat
 deriving DecidableEq
def gS:Li:=⟨[],1,0⟩
structure fD (l:Li):Prop where
 low:l.low<=l.os.length
 many:l.os.length<=256
 lim:l.lim<=128
 mu:1<=l.lim
def fU (m:Nat)(l:Li):List Int×Li:=(l.os.take m,{l with os:=l.os.drop m,low:=min l.low (l.os.length-m)})
def lC (c:bZ)(l:Li):Li:=if l.lim<c.batch then{l with lim:=l.lim+1}else l
def QP (c:bZ)(l:Li):Option Int×Li:=match l.os.getLast? with
 | none=>(none,if l.lim<c.batch then{l with lim:=l.lim+1}else{l with lim:=min (l.lim+c.batch) 128})
 | some x=>(some x,{l with os:=l.os.dropLast,low:=min l.low (l.os.length-1)})
def GN (c:bZ)(l:Li):Nat:=min l.lim c.batch
def dY (xs:List Int)(l:Li):Li:=if l.os.length+xs.length>256 then l else{l with os:=l.os++xs}
def dH (c:bZ)(x:Int)(l:Li):List Int×Li:=
 if l.os.length+1>256 then([],l)
 else if l.os.length+1<=l.lim then([],dY [x] l)
 else fU (min c.batch (l.os.length+1)) (lC c (dY [x] l))
def Kl (c:bZ)(l:Li):List Int×Li:=
 ((fU ((l.low+1)/2) l).1,{os:=(fU ((l.low+1)/2) l).2.os,lim:=if l.lim>c.batch then max (l.lim-c.batch) c.batch else l.lim,low:=(fU ((l.low+1)/2) l).2.os.length})
def Zy (_:bZ)(l:Li):List Int×Li:=fU l.os.length l
abbrev Bt:=Nat×List Int
def QO (f:bZ->Li->List Int×Li)(tb:List bZ)(ls:List Li):List Bt:=(List.range tb.length).filterMap λk=>match tb[k]?,ls[k]? with
 | some c,some l=>if(f c l).1=[]then none else some (k,(f c l).1)
 | _,_=>none
def QM (f:bZ->Li->List Int×Li)(tb:List bZ)(ls:List Li):List Li:=List.zipWith (λc l=>(f c l).2) tb ls
def QF (tb:List bZ)(ls:List Li):Nat:=((tb.zip ls).map λx=>x.1.size*x.2.os.length).sum
theorem fD.nil:fD gS:=⟨zD _,by decide,by decide,by decide⟩
theorem vo {m:Nat}{l:Li}(h:fD l):fD (fU m l).2:=by
 have b:=h.low;have a:=h.many;refine⟨?_,?_,h.lim,h.mu⟩
 ·simp only[fU,jM];omega
 ·simp only[fU,jM];omega
theorem D9 {c:bZ}{l:Li}(hc:c.ok)(h:fD l):fD (QP c l).2:=by
 have b:=h.low;have a:=h.many;have d:=h.lim;have e:=h.mu;unfold bZ.ok at hc;unfold QP;split
 ·split
  ·exact⟨b,a,by simp only;omega,by simp only;omega⟩
  ·exact⟨b,a,by simp only;omega,by simp only;omega⟩
 ·exact⟨by simp only[xl];omega,by simp only[xl];omega,d,e⟩
theorem wy {xs:List Int}{l:Li}(h:fD l):fD (dY xs l):=by
 have b:=h.low;have a:=h.many;unfold dY;split
 ·exact h
 ·exact⟨by simp only[zQ];omega,by simp only[zQ];omega,h.lim,h.mu⟩
theorem D5 {c:bZ}{l:Li}(hc:c.ok)(h:fD l):fD (lC c l):=by
 have a:=h.lim;unfold bZ.ok at hc;unfold lC;split
 ·exact⟨h.low,h.many,by simp only;omega,by simp only;omega⟩
 ·exact h
theorem Pb {c:bZ}{x:Int}{l:Li}(hc:c.ok)(h:fD l):fD (dH c x l).2:=by
 unfold dH;split
 ·exact h
 ·split
  ·exact wy h
  ·exact vo (D5 hc (wy h))
theorem A3 {c:bZ}{l:Li}(hc:c.ok)(h:fD l):fD (Kl c l).2:=by
 have a:=(vo (m:=(l.low+1)/2) h).many;have b:=h.lim;have d:=h.mu;unfold bZ.ok at hc;refine⟨zD _,a,?_,?_⟩<;>simp only[Kl]<;>split<;>omega
theorem M8 {c:bZ}{l:Li}(h:fD l):fD (Zy c l).2:=vo h
theorem Iv (c:bZ)(hc:c.ok):Kl c gS=([],gS):=by
 unfold bZ.ok at hc;simp[Kl,gS,fU];omega
theorem E0 (c:bZ):Zy c gS=([],gS):=by simp[Zy,gS,fU]
def fX.rem (t:fX):fX:={low:=min t.low (t.bs.length-1),bs:=t.bs.dropLast}
def fX.tick (t:fX):fX:={low:=(t.bs.drop ((t.low+1)/2)).length,bs:=t.bs.drop ((t.low+1)/2)}
def fX.out (t:fX):List (List Int):=t.bs.take ((t.low+1)/2)
end Go.Ar
namespace Go.Proofs
open Go.Vc
set_option maxRecDepth 100000
def Xr.h:Hn:=.q .o1 (.q (.cS (.seq [.op,.op,.op,.cO true 4 (RI.ops 4),.op])) .l)
def Xr.v (a:R2)(b:Hp)(c:aO):Prop:=bR (λd e=>c d e) λf=>If (!a.isNone) (bG a 0 b λh=>f h b) (f false b)
theorem Xr.o {a b c}(d:Xr.v a b c):Xr.c a b c:=Wa Tryz.func192 (x:=Xr.h) (R0 d)
def ZX.h:Hn:=.q .o1 (.q .o3 .l)
def ZX.v (a:Hp)(b:Option Addr->Hp->Prop):Prop:=aV #[.bool true,.pointer none,.pointer none,.pointer none,.pointer none,.pointer none,.pointer none,.pointer none,.pointer none,.pointer none,.pointer none,.pointer none,.pointer none,.pointer none,.pointer none,.pointer none,.pointer none] 330 a λc d=>b (some c) d
theorem ZX.o {a b}(c:ZX.v a b):ZX.c a b:=Wa Tryz.func193 (x:=ZX.h) (R0 c)
def Yn.h:Hn:=.q .o1 (.q (.k (.q .o4 (.c .aM (.q (.cS (.seq [.op,.op,.op,.cO false 2 [.op,.op],.op,.cO false 2 [.op,.op],.op,.cO false 4 (RI.ops 4),.op])) .aK)))) (.q (.q .o2 (.k (.loop [(9,.I)] (.q (.q .o5 (.c .l .l)) (.q (.k .o4) .o3))))) .aM))
def Yn.v (a:R2)(b c d:Int)(e:Hp)(f:aN):Prop:=Xr.c a e λg h=>If (!g) (f 5 h) (bR (λi j=>bR (λk l=>bR (λm n=>If m (f 1 n) (YC [bN] (λo=>o b n) λp (q:Int) r=>bL (b+c) λs=>If (q<s) (YR.c a q d r λt=>bL (q+1) λu=>p u t) (f 0 r))) λv=>If k (v true l) (bL (1024-b) λw=>v (decide (c>w)) l)) λx=>If i (x true j) (x (decide (b>1024)) j)) λy=>If (b<0) (y true h) (y (decide (c<1)) h))
theorem Yn.o {a b c d e f}(g:Yn.v a b c d e f):Yn.c a b c d e f:=Wa Tryz.func195 (x:=Yn.h) (R0 g)
def Xw.h:Hn:=.q .o1 (.q .o5 .l)
def Xw.v (a:R2)(b c:Int)(d:Hp)(e:aN):Prop:=Yn.c a b c 0 d λf g=>e f g
theorem Xw.o {a b c d e}(f:Xw.v a b c d e):Xw.c a b c d e:=Wa Tryz.func219 (x:=Xw.h) (R0 f)
def YK.h:Hn:=.q .o1 (.q (.q (.cS (.seq [.op,.op,.op,.op,.cO false 2 [.op,.op],.op,.cO false 2 [.op,.op]])) .aK) (.q .o9 (.q (.q (.cS (.seq [.op,.op,.op,.cO false 8 (RI.ops 8)])) .aK) (.q (.o 13) .l))))
def YK.v (a:R2)(b:Int)(c:Hp)(d:aN):Prop:=Xr.c a c λe f=>bR (λg h=>bR (λi j=>If i (d 0 j) (Nz 8<|bL (b.tdiv 8) λk=>Nz 8<|bL (k.tdiv 8) λl=>bT a λm=>m5 (m.add 1) 16 l 1 λn=>fQ n j λo=>bR (λp q=>If p (d 0 q) (Nz 8<|bL (b.tdiv 8) λr=>Nz 8 <| bT o λs=>m5 s 8 (r.tmod 8) 1 λt=>fQ t q λu=>Nz 8 <| bT u λv=>m5 v 8 (b.tmod 8) 1 λw=>bM w q λx=>d x q)) λy=>If o.isNone (y true j) (Nz 8<|bL (b.tdiv 8) λz=>Nz 8 <| bT o λaa=>m5 aa 8 (z.tmod 8) 1 λab=>fQ ab j λac=>y ac.isNone j))) λad=>If g (ad true h) (ad (decide (b≥1024)) h)) λae=>If (!e) (ae true f) (ae (decide (b<0)) f)
theorem YK.o {a b c d}(e:YK.v a b c d):YK.c a b c d:=Wa Tryz.func245 (x:=YK.h) (R0 e)
def YR.h:Hn:=.q .o9 (.q .o8 (.q .o7 (.jT [] (.q .o5 (.c .o7 .l)) (.q .o5 (.c .o8 .l)))))
def YR.v (a:R2)(b c:Int)(d:Hp)(e:aP):Prop:=Nz 8<|bL (b.tdiv 8) λf=>Nz 8<|bL (f.tdiv 8) λg=>bT a λh=>m5 (h.add 1) 16 g 1 λi=>Wv.c (some i) d λj k=>Nz 8<|bL (b.tdiv 8) λl=>Nz 8 <| bT j λm=>m5 m 8 (l.tmod 8) 1 λn=>Wy.c (some n) k λo p=>Nz 8 <| bT o λq=>m5 q 8 (b.tmod 8) 1 λr=>eP r (.I c) p λs=>Jn [] (λt=>bT j λu=>aY u 0 t λv=>aY u 1 t λw=>aY u 2 t λx=>aY u 3 t λy=>aY u 4 t λz=>aY u 5 t λaa=>aY u 6 t λab=>aY u 7 t λac=>If (v.isNone&&(w.isNone&&(x.isNone&&(y.isNone&&(z.isNone&&(aa.isNone&&(ab.isNone&&(ac.isNone&&true)))))))) (Nz 8<|bL (b.tdiv 8) λad=>Nz 8<|bL (ad.tdiv 8) λae=>bT a λaf=>m5 (af.add 1) 16 ae 1 λag=>eP ag (.pointer none) t λah=>e ah) (e t)) λai=>bT o λaj=>aQ aj 0 s λak=>aQ aj 1 s λal=>aQ aj 2 s λam=>aQ aj 3 s λan=>aQ aj 4 s λao=>aQ aj 5 s λap=>aQ aj 6 s λaq=>aQ aj 7 s λar=>If ((ak==0)&&((al==0)&&((am==0)&&((an==0)&&((ao==0)&&((ap==0)&&((aq==0)&&((ar==0)&&true)))))))) (Nz 8<|bL (b.tdiv 8) λau=>Nz 8 <| bT j λav=>m5 av 8 (au.tmod 8) 1 λaw=>eP aw (.pointer none) s λax=>ai ax) (ai s)
theorem YR.o {a b c d e}(f:YR.v a b c d e):YR.c a b c d e:=Wa Tryz.func246 (x:=YR.h) (R0 f)
def XV.h:Hn:=.q .o1 (.q (.q (.cS (.seq [.op,.op,.op,.cO true 6 [.op,.op,.op,.cO false 2 [.op,.op]]])) .aK) (.q .o6 .l))
def XV.v (a:R2)(b c d:Int)(e:Hp)(f:aN):Prop:=Xr.c a e λg h=>bR (λi j=>If i (f 1 j) (Yn.c a b c d j λk l=>f k l)) λm=>If g (bR (λn o=>m n o) λp=>If (d<1) (p true h) (p (decide (d>1073741824)) h)) (m false h)
theorem XV.o {a b c d e f}(g:XV.v a b c d e f):XV.c a b c d e f:=Wa Tryz.func256 (x:=XV.h) (R0 g)
def Wv.h:Hn:=.q .o1 (.jT [] (.q .o4 (.c .o4 .l)) (.q .o4 .l))
def Wv.v (a:R2)(b:Hp)(c:Option Addr->Hp->Prop):Prop:=Jn [] (λd=>bT a λe=>fQ e d λf=>c f d) λg=>bT a λh=>fQ h b λi=>If i.isNone (aV #[.pointer none,.pointer none,.pointer none,.pointer none,.pointer none,.pointer none,.pointer none,.pointer none] 359 b λj k=>bT a λl=>eP l (.pointer (some j)) k λm=>g m) (g b)
theorem Wv.o {a b c}(d:Wv.v a b c):Wv.c a b c:=Wa Tryz.func279 (x:=Wv.h) (R0 d)
def Wy.h:Hn:=.q .o1 (.jT [] (.q .o4 (.c .o4 .l)) (.q .o4 .l))
def Wy.v (a:R2)(b:Hp)(c:Option Addr->Hp->Prop):Prop:=Jn [] (λd=>bT a λe=>fQ e d λf=>c f d) λg=>bT a λh=>fQ h b λi=>If i.isNone (aV #[.I 0,.I 0,.I 0,.I 0,.I 0,.I 0,.I 0,.I 0] 363 b λj k=>bT a λl=>eP l (.pointer (some j)) k λm=>g m) (g b)
theorem Wy.o {a b c}(d:Wy.v a b c):Wy.c a b c:=Wa Tryz.func280 (x:=Wy.h) (R0 d)
end Go.Proofs
namespace Go.Ar
open Go Go.Vc Go.Proofs
open Go.Bu (Y4)
variable {U:Hp}{F:Rg}{p:Nat}{M Lf:Nat->Option Nat}{ow:Nat->Nat}
def fH {α:Type}(f:Nat->α)(k:Nat)(v:α):Nat->α:=λi=>if i=k then v else f i
theorem Zk {α:Type}(f:Nat->α)(k:Nat)(v:α):fH f k v k=v:=by simp[fH]
theorem Z7 {α:Type}(f:Nat->α){k i:Nat}(v:α)(h:i≠k):fH f k v i=f i:=by simp[fH,h]
theorem QU {α:Type}(f:Nat->α)(n k:Nat)(v:α):((List.range n).map f).set k v=(List.range n).map (fH f k v):=by
 apply zm;intro i;by_cases hik:i=k
 ·subst hik;rcases jX i n with h|h
  ·rw[zJ (by simpa using h)];simp[mw h,fH]
  ·rw[zT (by simpa using h),zT (by simpa using h)]
 ·rw[ze (Ne.symm hik)];simp only[zd];rcases jX i n with h|h
  ·simp[mw h,fH,hik]
  ·simp[zT (show(List.range n).length<=i by simpa using h)]
theorem QY {α:Type}(f:Nat->α){n k:Nat}(h:k<n):((List.range n).map f)[k]?=some (f k):=by simp[mw h]
def ptr (o:Option Nat):Value:=.pointer (o.map λq=>⟨q,0,none⟩)
structure jE (U:Hp) (F:Rg) (p:Nat) (M Lf:Nat->Option Nat) (ow:Nat->Nat):Prop where
 hd:bX U p (.bool true::(List.range 16).map λi=>ptr (M i))
 iS:∀i q,i<16->M i=some q->bX U q ((List.range 8).map λj=>ptr (Lf (8*i+j)))
 kf:∀i,i<16->M i=none->∀j,j<8->Lf (8*i+j)=none
 leaf:∀k q,k<128->Lf k=some q->bX U q ((List.range 8).map λj=>.int .i64 ((ow (8*k+j):Nat):Int))
 ir:∀k,k<128->Lf k=none->∀j,j<8->ow (8*k+j)=0
 fp:F p
 fm:∀i q,i<16->M i=some q->F q/\q≠p
 fl:∀k q,k<128->Lf k=some q->F q/\q≠p
 mm:∀i j q,i<16->j<16->M i=some q->M j=some q->i=j
 ll:∀i j q,i<128->j<128->Lf i=some q->Lf j=some q->i=j
 ml:∀i k q,i<16->k<128->M i=some q->Lf k≠some q
def iQ (U:Hp)(F:Rg)(p:Nat)(ow:Nat->Nat):Prop:=∃M Lf,jE U F p M Lf ow
theorem jE.move {σ':Hp}{G:Rg}(h:jE U F p M Lf ow)(hb:∀b,b<U.size->F b->σ'[b]?=U[b]?)(hg:∀b,b<U.size->F b->G b):jE σ' G p M Lf ow:=by
 have j:∀{b:Nat} {cs:List Value},bX U b cs->F b->bX σ' b cs:=by
  rintro b cs ⟨e,m⟩ r;exact⟨e,(hb b (bX.lt ⟨e,m⟩) r).trans m⟩
 exact⟨j h.hd h.fp,λi q g a=>j (h.iS i q g a) (h.fm i q g a).1,h.kf,λk q d a=>j (h.leaf k q d a) (h.fl k q d a).1,h.ir,hg p h.hd.lt h.fp,
  λi q g a=>⟨hg q (h.iS i q g a).lt (h.fm i q g a).1,(h.fm i q g a).2⟩,λk q d a=>⟨hg q (h.leaf k q d a).lt (h.fl k q d a).1,(h.fl k q d a).2⟩,h.mm,h.ll,h.ml⟩
theorem iQ.loc:dK λU F=>iQ U F p ow:=λU g F G ⟨M,Lf,h⟩ i e=>⟨M,Lf,h.move (λb a d=>(e b a d).2) λb a d=>(e b a d).1⟩
theorem iQ.congr {ow':Nat->Nat}(h:iQ U F p ow)(he:∀x,x<1024->ow x=ow' x):iQ U F p ow':=by
 obtain⟨M,Lf,h⟩:=h;refine⟨M,Lf,h.hd,h.iS,h.kf,λk q a b=>?_,λk a b j d=>?_,h.fp,h.fm,h.fl,h.mm,h.ll,h.ml⟩
 ·have:=h.leaf k q a b;have e:((List.range 8).map λj=>Value.int .i64 ((ow (8*k+j):Nat):Int))=(List.range 8).map λj=>Value.int .i64 ((ow' (8*k+j):Nat):Int):=by
   apply j5;intro j d;rw[zh]at d;rw[he _ O]
  rw[←e];exact this
 ·rw[←he _ O];exact h.ir k a b j d
theorem Av (h:iQ U F p ow){R:aO}(hR:R true U):Xr.c (aW p) U R:=by
 refine Xr.o ?_;unfold Xr.v;obtain⟨M,Lf,h⟩:=h;exact bR.intro (cB rfl (aG (h.hd.rB rfl hR)))
theorem pA {a:Addr}{n i sz:Nat}{K:Addr->Prop}(hi:i<n)(hK:K (a.add (i*sz))):m5 a n (i:Int) sz K:=⟨O,O,by simpa using hK⟩
theorem jE.rM (h:jE U F p M Lf ow){i:Nat}(hi:i<16){K:Option Addr->Prop}(hK:K ((M i).map λq=>⟨q,0,none⟩)):fQ ⟨p,1+i,none⟩ U K:=by
 refine h.hd.oQ ?_ hK;rw[Nat.add_comm,xV,QY _ hi];rfl
theorem jE.rL (h:jE U F p M Lf ow){i j q:Nat}(hi:i<16)(hq:M i=some q)(hj:j<8){K:Option Addr->Prop}(hK:K ((Lf (8*i+j)).map λq=>⟨q,0,none⟩)):fQ ⟨q,j,none⟩ U K:=
 (h.iS i q hi hq).oQ (QY _ hj) hK
theorem jE.rN (h:jE U F p M Lf ow){k j q:Nat}(hk:k<128)(hq:Lf k=some q)(hj:j<8){K:Int->Prop}(hK:K ((ow (8*k+j):Nat):Int)):gP .i64 ⟨q,j,none⟩ U K:=
 (h.leaf k q hk hq).se (QY _ hj) hK
def pH (ow:Nat->Nat)(x:Int):Nat:=if 0<=x/\x<1024 then ow x.toNat else 0
theorem Jx (h:iQ U F p ow)(x:Int){R:aN}(hR:R ((pH ow x:Nat):Int) U):YK.c (aW p) x U R:=by
 refine YK.o ?_;unfold YK.v;have m:=h;obtain⟨M,Lf,h⟩:=h;refine Av m (bR.intro (cE rfl (bR.intro (cR (λu=>cB rfl ?_) λu=>?_))))
 ·have:pH ow x=0:=by unfold pH;rw[zB O]
  rw[this]at hR;exact hR
 refine cR (λw=>?_) λz=>?_
 ·have:pH ow x=0:=by unfold pH;rw[zB O]
  rw[this]at hR;exact hR
 obtain⟨y,rfl⟩:=zY (show 0<=x by omega);have A:y<1024:=by omega
 have j:pH ow (y:Int)=ow y:=by unfold pH;rw[zC O];rfl
 rw[j]at hR;have d:((y:Int).tdiv 8)=((y/8:Nat):Int):=by rw[Yi O];simp
 have s:(((y/8:Nat):Int).tdiv 8)=((y/8/8:Nat):Int):=by rw[Yi O];simp
 have g:(((y/8:Nat):Int).tmod 8)=((y/8%8:Nat):Int):=by rw[Qz O];simp
 have i:((y:Int).tmod 8)=((y%8:Nat):Int):=by rw[Qz O];simp
 have b:8*(y/8/8)+y/8%8=y/8:=by omega
 have a:8*(y/8)+y%8=y:=by omega
 refine nz aB (cQ d O (nz aB (cQ s O (aG ?_))));refine pA O ?_;rw[add_lit,add_lit,zH,mB];refine h.rM O (bR.intro ?_);cases hM:M (y/8/8)with
 | none=>
  refine cB rfl (cB rfl ?_);have e:=h.kf _ O hM (y/8%8) O;rw[b]at e;have:=h.ir _ O e (y%8) O;rw[a]at this;rw[this]at hR;exact hR
 | some q=>
  refine cE rfl (nz aB (cQ d O (nz aB (aG ?_))));rw[g];refine pA O ?_;rw[add_lit,zH,mB];refine h.rL O hM O ?_;rw[b];cases hL:Lf (y/8)with
  | none=>
   refine cB rfl ?_;have:=h.ir _ O hL (y%8) O;rw[a]at this;rw[this]at hR;exact hR
  | some r=>
   refine cE rfl (nz aB (cQ d O (nz aB (aG ?_))));rw[g];refine pA O ?_;rw[add_lit,zH,mB];refine h.rL O hM O ?_;rw[b,hL];refine nz aB (aG ?_);rw[i];refine pA O ?_;rw[add_lit,zH,mB];refine h.rN O hL O ?_;rw[a];exact hR
theorem Mc {R:Option Addr->Hp->Prop}(hR:∀σ' p,bK U σ'->U.size<=p->iQ σ' (λb=>U.size<=b) p (λ_=>0)->R (some ⟨p,0,none⟩) σ'):ZX.c U R:=by
 refine ZX.o ?_;unfold ZX.v;refine nw (cs:=[.bool true,.pointer none,.pointer none,.pointer none,.pointer none,.pointer none,.pointer none,.pointer none,.pointer none,.pointer none,.pointer none,.pointer none,.pointer none,.pointer none,.pointer none,.pointer none,.pointer none]) λv d e a=>?_;refine hR v _ e (zD _) ⟨λ_=>none,λ_=>none,a,?_,?_,?_,?_,zD _,?_,?_,?_,?_,?_⟩<;>intros<;>simp_all
theorem OI (h:jE U F p M Lf ow){i:Nat}(hi:i<16){R:Option Addr->Hp->Prop}
 (hR:∀σ' M' q,Ext F U σ'->M' i=some q->jE σ' (Grow F U) p M' Lf ow->R (some ⟨q,0,none⟩) σ'):Wv.c (some ⟨p,1+i,none⟩) U R:=by
 refine Wv.o ?_;unfold Wv.v;refine Jn.intro (aG (h.rM hi ?_));cases hM:M i with
 | some q=>exact cE rfl (aG (h.rM hi (by rw[hM];exact hR U M q (Ext.refl _ _) hM (h.move (λ_ _ _=>rfl) λ_ _ B=>.inl B))))
 | none=>
  refine cB rfl (nw (cs:=[.pointer none,.pointer none,.pointer none,.pointer none,.pointer none,.pointer none,.pointer none,.pointer none]) λD E e1 y=>aG ?_);have C:=h.hd.lt;refine(e1.bU h.hd id).s0 aE λw o2 u=>?_;have s:(Value.bool true::(List.range 16).map λi=>ptr (M i)).set (1+i) (.pointer (some ⟨U.size,0,none⟩))=.bool true::(List.range 16).map λj=>ptr (fH M i (some U.size) j):=by
   rw[Nat.add_comm,qe,QU]
   congr 1
   apply j5;intro j _;simp only[fH];split<;>rfl
  rw[s]at u;have r:∀{b:Nat} {cs:List Value},bX U b cs->b≠p->bX w b cs:=λz x=>Wr o2 (e1.bU z id) x;have A:jE w (Grow F U) p (fH M i (some U.size)) Lf ow:=by
   refine⟨u,λj q e a=>?_,λj e a=>?_,λk q d a=>r (h.leaf k q d a) (h.fl k q d a).2,h.ir,.inl h.fp,λj q e a=>?_,λk q d a=>⟨.inl (h.fl k q d a).1,(h.fl k q d a).2⟩,λj k q e d m g=>?_,h.ll,λj k q e d a=>?_⟩
   ·by_cases hji:j=i
    ·subst hji;rw[Zk]at a;cases a;have x:=h.kf j e hM;have:((List.range 8).map λk=>ptr (Lf (8*j+k)))=[.pointer none,.pointer none,.pointer none,.pointer none,.pointer none,.pointer none,.pointer none,.pointer none]:=by
      have:((List.range 8).map λk=>ptr (Lf (8*j+k)))=(List.range 8).map λ_=>Value.pointer none:=by
       apply j5;intro k d;rw[zh]at d;rw[x k d];rfl
      rw[this];rfl
     rw[this];exact Wr o2 y O
    ·rw[Z7 _ _ hji]at a;exact r (h.iS j q e a) (h.fm j q e a).2
   ·by_cases hji:j=i
    ·subst hji;rw[Zk]at a;cases a
    ·rw[Z7 _ _ hji]at a;exact h.kf j e a
   ·by_cases hji:j=i
    ·subst hji;rw[Zk]at a;cases a;exact⟨.inr (zD _),O⟩
    ·rw[Z7 _ _ hji]at a;exact⟨.inl (h.fm j q e a).1,(h.fm j q e a).2⟩
   ·by_cases hji:j=i
    ·by_cases hki:k=i
     ·omega
     ·subst hji;rw[Zk]at m;cases m;rw[Z7 _ _ hki]at g;have:=(h.iS k _ d g).lt;omega
    ·rw[Z7 _ _ hji]at m;by_cases hki:k=i
     ·subst hki;rw[Zk]at g;cases g;have:=(h.iS j _ e m).lt;omega
     ·rw[Z7 _ _ hki]at g;exact h.mm j k q e d m g
   ·by_cases hji:j=i
    ·subst hji;rw[Zk]at a;cases a;intro hl;have:=(h.leaf k _ d hl).lt;omega
    ·rw[Z7 _ _ hji]at a;exact h.ml j k q e d a
  refine aG (A.rM hi ?_);rw[Zk];exact hR w _ U.size (e1.to.trans (o2.ext.sub λb z=>z▸h.fp)) (Zk _ _ _) A
theorem Ld (h:jE U F p M Lf ow){i j q:Nat}(hi:i<16)(hj:j<8)(hq:M i=some q){R:Option Addr->Hp->Prop}
 (hR:∀σ' L' r,Ext F U σ'->L' (8*i+j)=some r->jE σ' (Grow F U) p M L' ow->R (some ⟨r,0,none⟩) σ'):Wy.c (some ⟨q,j,none⟩) U R:=by
 refine Wy.o ?_;unfold Wy.v;have S:8*i+j<128:=by omega
 refine Jn.intro (aG (h.rL hi hq hj ?_));cases hL:Lf (8*i+j)with
 | some r=>exact cE rfl (aG (h.rL hi hq hj (by rw[hL];exact hR U Lf r (Ext.refl _ _) hL (h.move (λ_ _ _=>rfl) λ_ _ E=>.inl E))))
 | none=>
  refine cB rfl (nw (cs:=[.int .i64 0,.int .i64 0,.int .i64 0,.int .i64 0,.int .i64 0,.int .i64 0,.int .i64 0,.int .i64 0]) λW X e1 L=>aG ?_);have P:=h.iS i q hi hq;have V:=P.lt;have E:=h.fm i q hi hq;refine(e1.bU P id).s0 aE λJ o2 z=>?_;have y:∀{b:Nat} {cs:List Value},bX U b cs->b≠q->bX J b cs:=λN K=>Wr o2 (e1.bU N id) K;have Q:jE J (Grow F U) p M (fH Lf (8*i+j) (some U.size)) ow:=by
   refine⟨y h.hd (Ne.symm E.2),λm x g d=>?_,λm g d C H=>?_,λk r a s=>?_,λk a s=>?_,.inl h.fp,λm x g d=>⟨.inl (h.fm m x g d).1,(h.fm m x g d).2⟩,λk r a s=>?_,h.mm,λk G r B D w u=>?_,λm k x g a d=>?_⟩
   ·by_cases hii:m=i
    ·subst hii;rw[hq]at d;cases d;rw[QU]at z;have:((List.range 8).map (fH (λj=>ptr (Lf (8*m+j))) j (.pointer (some ⟨U.size,0,none⟩))))=(List.range 8).map λk=>ptr (fH Lf (8*m+j) (some U.size) (8*m+k)):=by
      apply j5;intro k _;simp only[fH];by_cases hkj:k=j
      ·subst hkj;simp[ptr]
      ·have:¬8*m+k=8*m+j:=by omega
       simp[hkj,this]
     rw[this]at z;exact z
    ·have A:x≠q:=λe=>by subst e;exact hii (h.mm m i x g hi d hq)
     have:=y (h.iS m x g d) A;have e:((List.range 8).map λk=>ptr (fH Lf (8*i+j) (some U.size) (8*m+k)))=(List.range 8).map λk=>ptr (Lf (8*m+k)):=by
      apply j5;intro k a;rw[zh]at a;rw[Z7 _ _ O]
     rw[e];exact this
   ·have A:m≠i:=λe=>by subst e;rw[hq]at d;cases d
    rw[Z7 _ _ O];exact h.kf m g d C H
   ·by_cases hkk:k=8*i+j
    ·subst hkk;rw[Zk]at s;cases s;have K:=h.ir _ S hL;have:((List.range 8).map λC=>Value.int .i64 ((ow (8*(8*i+j)+C):Nat):Int))=[.int .i64 0,.int .i64 0,.int .i64 0,.int .i64 0,.int .i64 0,.int .i64 0,.int .i64 0,.int .i64 0]:=by
      have:((List.range 8).map λC=>Value.int .i64 ((ow (8*(8*i+j)+C):Nat):Int))=(List.range 8).map λ_=>Value.int .i64 0:=by
       apply j5;intro k a;rw[zh]at a;rw[K k a];rfl
      rw[this];rfl
     rw[this];exact Wr o2 L O
    ·rw[Z7 _ _ hkk]at s;exact y (h.leaf k r a s) λe=>by subst e;exact h.ml i k r hi a hq s
   ·by_cases hkk:k=8*i+j
    ·subst hkk;rw[Zk]at s;cases s
    ·rw[Z7 _ _ hkk]at s;exact h.ir k a s
   ·by_cases hkk:k=8*i+j
    ·subst hkk;rw[Zk]at s;cases s;have:=h.hd.lt;exact⟨.inr (zD _),O⟩
    ·rw[Z7 _ _ hkk]at s;exact⟨.inl (h.fl k r a s).1,(h.fl k r a s).2⟩
   ·by_cases e1':k=8*i+j
    ·by_cases e2':G=8*i+j
     ·omega
     ·subst e1';rw[Zk]at w;cases w;rw[Z7 _ _ e2']at u;have:=(h.leaf G _ D u).lt;omega
    ·rw[Z7 _ _ e1']at w;by_cases e2':G=8*i+j
     ·subst e2';rw[Zk]at u;cases u;have:=(h.leaf k _ B w).lt;omega
     ·rw[Z7 _ _ e2']at u;exact h.ll k G r B D w u
   ·by_cases hkk:k=8*i+j
    ·subst hkk;rw[Zk];intro e;cases e;have:=(h.iS m _ g d).lt;omega
    ·rw[Z7 _ _ hkk];exact h.ml m k x g a d
  refine aG (Q.rL hi hq hj ?_);rw[Zk];exact hR J _ U.size (e1.to.trans (o2.ext.sub λb N=>N▸E.1)) (Zk _ _ _) Q
theorem Nc (h:jE U F p M Lf ow){k r j no:Nat}(hk:k<128)(hr:Lf k=some r)(hj:j<8){σ':Hp}(ho:Qg U σ' r)(hb:bX σ' r (((List.range 8).map λj=>Value.int .i64 ((ow (8*k+j):Nat):Int)).set j (.int .i64 (no:Int)))) :
 jE σ' F p M Lf (fH ow (8*k+j) no):=by
 refine⟨Wr ho h.hd (Ne.symm (h.fl k r hk hr).2),λi q y x=>Wr ho (h.iS i q y x) λe=>by subst e;exact h.ml i k q y hk x hr,h.kf,λd w g b=>?_,λd g b u s=>?_,h.fp,h.fm,h.fl,h.mm,h.ll,h.ml⟩
 ·by_cases hkk:d=k
  ·subst hkk;rw[hr]at b;cases b;rw[QU]at hb;have:((List.range 8).map (fH (λj=>Value.int .i64 ((ow (8*d+j):Nat):Int)) j (.int .i64 (no:Int))))=(List.range 8).map λu=>Value.int .i64 ((fH ow (8*d+j) no (8*d+u):Nat):Int):=by
    apply j5;intro a _;simp only[fH];by_cases haj:a=j
    ·subst haj;simp
    ·have:¬8*d+a=8*d+j:=by omega
     simp[haj,this]
   rw[this]at hb;exact hb
  ·have m:w≠r:=λe=>by subst e;exact hkk (h.ll d k w g hk b hr)
   have:=Wr ho (h.leaf d w g b) m;have e:((List.range 8).map λa=>Value.int .i64 ((fH ow (8*k+j) no (8*d+a):Nat):Int))=(List.range 8).map λa=>Value.int .i64 ((ow (8*d+a):Nat):Int):=by
    apply j5;intro a ha;rw[zh]at ha;rw[Z7 _ _ O]
   rw[e];exact this
 ·have m:d≠k:=λe=>by subst e;rw[hr]at b;cases b
  rw[Z7 _ _ O];exact h.ir d g b u s
theorem Pp (h:jE U F p M Lf ow){i j q:Nat}(hi:i<16)(hj:j<8)(hq:M i=some q)(hz:∀a,a<8->ow (8*(8*i+j)+a)=0){σ':Hp}(ho:Qg U σ' q)(hb:bX σ' q (((List.range 8).map λj=>ptr (Lf (8*i+j))).set j (.pointer none))) :
 jE σ' F p M (fH Lf (8*i+j) none) ow:=by
 have G:=h.fm i q hi hq;refine⟨Wr ho h.hd (Ne.symm G.2),λd y g b=>?_,λd g b E z=>?_,λk r x m=>?_,λk x m=>?_,h.fp,h.fm,λk r x m=>?_,h.mm,λk D r B C u s=>?_,λd k y g w b=>?_⟩
 ·by_cases hii:d=i
  ·subst hii;rw[hq]at b;cases b;rw[QU]at hb;have:((List.range 8).map (fH (λj=>ptr (Lf (8*d+j))) j (.pointer none)))=(List.range 8).map λk=>ptr (fH Lf (8*d+j) none (8*d+k)):=by
    apply j5;intro k _;simp only[fH];by_cases hkj:k=j
    ·subst hkj;simp[ptr]
    ·have:¬8*d+k=8*d+j:=by omega
     simp[hkj,this]
   rw[this]at hb;exact hb
  ·have A:y≠q:=λe=>by subst e;exact hii (h.mm d i y g hi b hq)
   have:=Wr ho (h.iS d y g b) A;have e:((List.range 8).map λk=>ptr (fH Lf (8*i+j) none (8*d+k)))=(List.range 8).map λk=>ptr (Lf (8*d+k)):=by
    apply j5;intro k w;rw[zh]at w;rw[Z7 _ _ O]
   rw[e];exact this
 ·simp only[fH];split
  ·rfl
  ·exact h.kf d g b E z
 ·by_cases hkk:k=8*i+j
  ·subst hkk;rw[Zk]at m;cases m
  ·rw[Z7 _ _ hkk]at m;exact Wr ho (h.leaf k r x m) λe=>by subst e;exact h.ml i k r hi x hq m
 ·by_cases hkk:k=8*i+j
  ·subst hkk;exact hz
  ·rw[Z7 _ _ hkk]at m;exact h.ir k x m
 ·by_cases hkk:k=8*i+j
  ·subst hkk;rw[Zk]at m;cases m
  ·rw[Z7 _ _ hkk]at m;exact h.fl k r x m
 ·by_cases e1':k=8*i+j
  ·subst e1';rw[Zk]at u;cases u
  ·rw[Z7 _ _ e1']at u;by_cases e2':D=8*i+j
   ·subst e2';rw[Zk]at s;cases s
   ·rw[Z7 _ _ e2']at s;exact h.ll k D r B C u s
 ·by_cases hkk:k=8*i+j
  ·subst hkk;rw[Zk];intro e;cases e
  ·rw[Z7 _ _ hkk];exact h.ml d k y g w b
theorem F4 (h:jE U F p M Lf ow){i:Nat}(hi:i<16)(hz:∀j,j<8->Lf (8*i+j)=none){σ':Hp}(ho:Qg U σ' p)(hb:bX σ' p ((Value.bool true::(List.range 16).map λi=>ptr (M i)).set (1+i) (.pointer none))) :
 jE σ' F p (fH M i none) Lf ow:=by
 have m:(Value.bool true::(List.range 16).map λi=>ptr (M i)).set (1+i) (.pointer none)=.bool true::(List.range 16).map λj=>ptr (fH M i none j):=by
  rw[Nat.add_comm,qe,QU]
  congr 1
  apply j5;intro j _;simp only[fH];split<;>rfl
 rw[m]at hb;have e:∀{j q},fH M i none j=some q->M j=some q:=λ{j q} d=>by
  by_cases hji:j=i
  ·subst hji;rw[Zk]at d;cases d
  ·rwa [Z7 _ _ hji]at d
 refine⟨hb,λj q g d=>Wr ho (h.iS j q g (e d)) (h.fm j q g (e d)).2,λj g d=>?_,λk q r d=>Wr ho (h.leaf k q r d) (h.fl k q r d).2,h.ir,h.fp,λj q g d=>h.fm j q g (e d),h.fl,λa b q s hb w u=>h.mm a b q s hb (e w) (e u),h.ll,λa k q s r d=>h.ml a k q s r (e d)⟩;by_cases hji:j=i
 ·subst hji;exact hz
 ·rw[Z7 _ _ hji]at d;exact h.kf j g d
theorem JW (h:iQ U F p ow){x no:Nat}(hx:x<1024){R:aP}(hR:∀σ',Ext F U σ'->iQ σ' (Grow F U) p (fH ow x no)->R σ'):YR.c (aW p) (x:Int) (no:Int) U R:=by
 refine YR.o ?_;unfold YR.v;obtain⟨M,Lf,h⟩:=h;have P:((x:Int).tdiv 8)=((x/8:Nat):Int):=by rw[Yi O];simp
 have t2:(((x/8:Nat):Int).tdiv 8)=((x/8/8:Nat):Int):=by rw[Yi O];simp
 have t3:(((x/8:Nat):Int).tmod 8)=((x/8%8:Nat):Int):=by rw[Qz O];simp
 have t4:((x:Int).tmod 8)=((x%8:Nat):Int):=by rw[Qz O];simp
 have hk:8*(x/8/8)+x/8%8=x/8:=by omega
 have X:8*(x/8)+x%8=x:=by omega
 refine nz aB (cQ P O (nz aB (cQ t2 O (aG ?_))));refine pA O ?_;rw[add_lit,add_lit,zH,mB];refine OI h O λv1 M1 q e1 E h1=>?_;refine nz aB (cQ P O (nz aB (aG ?_)));rw[t3];refine pA O ?_;rw[add_lit,zH,mB];refine Ld h1 O O E λv2 L2 r e2 L V=>?_;rw[hk]at L;have S:Ext F U v2:=e1.jh e2;refine nz aB (aG ?_);rw[t4];refine pA O ?_;rw[add_lit,zH,mB];have u:x/8<128:=by omega
 refine(V.leaf _ r u L).s0 aE λv3 o3 b3=>?_;have A:=Nc V u L O o3 b3;rw[X]at A;have a:∀b,Grow (Grow F U) v1 b->Grow F U b:=λb s=>by
  rcases s with h|h
  ·exact h
  ·exact .inr (ky e1.1 h)
 have H:Ext F U v3:=S.dS o3.ext λb s=>by subst s;exact a _ (V.fl _ _ u L).1
 have y:∀v L4,Ext F U v->jE v (Grow (Grow F U) v1) p M1 L4 (fH ow x no) →
  (bT (some ⟨q,0,none⟩) λi=>fQ (i.add 0) v λt42=>fQ (i.add 1) v λD=>fQ (i.add 2) v λJ=>fQ (i.add 3) v λG=>fQ (i.add 4) v λK=>fQ (i.add 5) v λB=>fQ (i.add 6) v λC=>fQ (i.add 7) v λN=>
   If (t42.isNone&&(D.isNone&&(J.isNone&&(G.isNone&&(K.isNone&&(B.isNone&&(C.isNone&&(N.isNone&&true)))))))) (Nz 8<|Ar .i64 ((x:Int).tdiv 8) λt47=>Nz 8<|Ar .i64 (t47.tdiv 8) λt48=>bT (some ⟨p,0,none⟩) λa49=>m5 (a49.add 1) 16 t48 1 λQ=>eP Q (.pointer none) v λY=>R Y) (R v)):=by
  intro v L4 ev h4;have m:=h4.iS _ q O E;have g:∀j,j<8->((List.range 8).map λj=>ptr (L4 (8*(x/8/8)+j)))[0+j]?=some (.pointer ((L4 (8*(x/8/8)+j)).map λq=>⟨q,0,none⟩)):=λj z=>by rw[zH,QY _ z];rfl
  refine aG (m.rP (g 0 O) (m.rP (g 1 O) (m.rP (g 2 O) (m.rP (g 3 O) (m.rP (g 4 O) (m.rP (g 5 O) (m.rP (g 6 O) (m.rP (g 7 O) ?_))))))));have fin:∀w,Ext F U w->iQ w (Grow (Grow F U) v1) p (fH ow x no)->R w:=λw ew hw=>hR w ew (iQ.loc.mono hw λb _ s=>a b s);refine cY (λe=>?_) λ_=>fin v ev ⟨_,_,h4⟩;have hz:∀j,j<8->L4 (8*(x/8/8)+j)=none:=by
   simp only[Option.isNone_map,sK,zE,Option.isNone_iff_eq_none]at e;intro j z;obtain⟨a0,a1,W,a3,Z,a5,a6,a7⟩:=e
   match j,z with
   | 0,_=>exact a0
   | 1,_=>exact a1
   | 2,_=>exact W
   | 3,_=>exact a3
   | 4,_=>exact Z
   | 5,_=>exact a5
   | 6,_=>exact a6
   | 7,_=>exact a7
  refine nz aB (cQ P O (nz aB (cQ t2 O (aG ?_))));refine pA O ?_;rw[add_lit,add_lit,zH,mB];refine h4.hd.s0 aE λY o4 b4=>fin Y (ev.dS o4.ext λb s=>by subst s;exact a _ h4.fp) ⟨_,_,F4 h4 O hz o4 b4⟩
 refine Jn.intro (aG ?_);have d:=A.leaf _ r u L;have g:∀j,j<8->((List.range 8).map λj=>Value.int .i64 ((fH ow x no (8*(x/8)+j):Nat):Int))[0+j]?=some (.int .i64 ((fH ow x no (8*(x/8)+j):Nat):Int)):=λj z=>by rw[zH,QY _ z]
 refine d.rI (g 0 O) (d.rI (g 1 O) (d.rI (g 2 O) (d.rI (g 3 O) (d.rI (g 4 O) (d.rI (g 5 O) (d.rI (g 6 O) (d.rI (g 7 O) ?_)))))));refine cY (λe=>?_) λ_=>y v3 L2 H A;have hz:∀j,j<8->fH ow x no (8*(8*(x/8/8)+x/8%8)+j)=0:=by
  rw[hk];simp only[tB,sK,zE,zV]at e;intro j z;obtain⟨a0,a1,W,a3,Z,a5,a6,a7⟩:=e
  match j,z with
  | 0,_=>exact a0
  | 1,_=>exact a1
  | 2,_=>exact W
  | 3,_=>exact a3
  | 4,_=>exact Z
  | 5,_=>exact a5
  | 6,_=>exact a6
  | 7,_=>exact a7
 refine nz aB (cQ P O (nz aB (aG ?_)));rw[t3];refine pA O ?_;rw[add_lit,zH,mB];have m:=A.iS _ q O E;refine m.s0 aE λv5 o5 b5=>?_;exact y v5 _ (H.dS o5.ext λb s=>by subst s;exact a _ (A.fm _ _ O E).1) (Pp A O O E hz o5 b5)
def jl (ow:Nat->Nat)(a m no:Nat):Nat->Nat:=if Y4 1024 a m then λp=>if a<=p/\p<a+m then no else ow p else ow
def ta (a m:Int):Int:=if Y4 1024 a m then 0 else 1
theorem BW (h:iQ U F p ow)(a m:Int)(ha : -1000000000000<=a)(ha2:a<=1000000000000)(no:Nat){R:aN}(h1:Y4 1024 a m=false->R 1 U)
 (hR:∀x y:Nat,a=x->m=y->1<=y->x+y<=1024->∀σ',Ext F U σ'->iQ σ' (Grow F U) p (jl ow x y no)->R 0 σ'):Yn.c (aW p) a m (no:Int) U R:=by
 refine Yn.o ?_;unfold Yn.v;have d:¬(0<=a/\1<=m/\m<=1024-a)->R 1 U:=λw=>h1 (by simp only[Y4,←sW];exact zM w);refine Av h (cE rfl (bR.intro (cR (λD=>bR.intro (cB rfl (bR.intro (cB rfl (cB rfl (d O)))))) λD=>?_)));refine bR.intro (cR (λs=>bR.intro (cB rfl (cB rfl (d O)))) λs=>?_);refine bR.intro (cR (λC=>cB rfl (d O)) λC=>ar O O (cR (λG=>d O) λG=>?_));obtain⟨x,rfl⟩:=zY (show 0<=a by omega);obtain⟨y,rfl⟩:=zY (show 0<=m by omega);have g:Y4 1024 (x:Int) (y:Int)=true:=by simp only[Y4,zE,zS];omega
 refine Z5 (a:=bN) (λ(t:Int) v=>∃i:Nat,t=((x+i:Nat):Int)/\i<=y/\Ext F U v/\iQ v (Grow F U) p (λz=>if x<=z/\z<x+i then no else ow z)) (λt _=>x+y-t.toNat) ⟨0,rfl,O,Ext.refl _ _,?_⟩ ?_
 ·have:(λz=>if x<=z/\z<x+0 then no else ow z)=ow:=by
   funext z;rw[zB O]
  rw[this];exact iQ.loc.mono h λb _ j=>.inl j
 rintro t v ⟨i,rfl,K,e,r⟩;refine cQ (m:=x+y) O O (cR (λB=>?_) λA=>?_)
 ·refine JW r O λH E u=>cQ (m:=x+(i+1)) O O ⟨⟨i+1,rfl,O,e.jh E,?_⟩,O⟩;refine iQ.congr (iQ.loc.mono u λb _ j=>?_) λz J=>?_
  ·rcases j with h|h
   ·exact h
   ·exact .inr (ky e.1 h)
  ·simp only[fH];by_cases hzi:z=x+i
   ·subst hzi;rw[zC rfl,zC O]
   ·rw[zB hzi];by_cases hin:x<=z/\z<x+i
    ·rw[zC hin,zC O]
    ·rw[zB hin,zB O]
 ·have:i=y:=by omega
  subst this;refine hR x i rfl rfl O O v e ?_;unfold jl;rw[g];exact r
theorem Lh (h:iQ U F p ow)(a m:Nat)(ha:a<=1000000){no:Nat}(hno:1<=no)(hno2:no<=1000){R:aN}(hR:∀σ',Ext F U σ'->iQ σ' (Grow F U) p (jl ow a m no)->R (ta a m) σ'):XV.c (aW p) a m (no:Int) U R:=by
 refine XV.o ?_;unfold XV.v;refine Av h (bR.intro (cB rfl (bR.intro (fM O (fM O ?_)))));refine BW h a m O O no (λj=>?_) λx y z w A u σ' e r=>?_
 ·have:=hR U (Ext.refl _ _) (by unfold jl;rw[j];exact iQ.loc.mono h λb _ s=>.inl s);unfold ta at this;rw[j]at this;exact this
 ·have g:a=x:=by omega
  have d:m=y:=by omega
  subst g;subst d;have i:Y4 1024 (a:Int) (m:Int)=true:=by simp only[Y4,zE,zS];omega
  have:=hR σ' e r;unfold ta at this;rw[i]at this;exact this
theorem L8 (h:iQ U F p ow)(a m:Nat)(ha:a<=1000000){R:aN}(hR:∀σ',Ext F U σ'->iQ σ' (Grow F U) p (jl ow a m 0)->R (ta a m) σ'):Xw.c (aW p) a m U R:=by
 refine Xw.o ?_;unfold Xw.v;refine BW h a m O O 0 (λj=>?_) λx y z w A u σ' e r=>?_
 ·have:=hR U (Ext.refl _ _) (by unfold jl;rw[j];exact iQ.loc.mono h λb _ s=>.inl s);unfold ta at this;rw[j]at this;exact this
 ·have g:a=x:=by omega
  have d:m=y:=by omega
  subst g;subst d;have i:Y4 1024 (a:Int) (m:Int)=true:=by simp only[Y4,zE,zS];omega
  have:=hR σ' e r;unfold ta at this;rw[i]at this;exact this
end Go.Ar
namespace Go.Proofs
open Go.Shelf
def Tryz.ij:Go.Shelf.Ren:=⟨fun|7=>285|10=>307|n=>n,fun|23=>72|26=>3|3=>4|28=>98|0=>0|27=>97|33=>142|4=>4|n=>n,fun|n=>n⟩
theorem Tryz.l3:Go.Proofs.SlLaysZI.n7 Tryz.prog Tryz.ij:={
 mixed:=by kernel_rfl
 f7:=⟨Tryz.f285.name,by decide,Tryz.func285.trans (congrArg some (by kernel_rfl))⟩
 f10:=⟨Tryz.f307.name,by decide,Tryz.func307.trans (congrArg some (by kernel_rfl))⟩
 t0:=Tryz.underlying0
 a0:=Tryz.isAgg0
 z0:=Tryz.sizeOf0
 v0:=Tryz.zeroValue0
 t4:=Tryz.underlying4
 a4:=Tryz.isAgg4
 z4:=Tryz.sizeOf4
 v4:=Tryz.zeroValue4
 t23:=Tryz.underlying72
 a23:=Tryz.isAgg72
 z23:=Tryz.sizeOf72
 v23:=Tryz.zeroValue72
 t26:=Tryz.underlying3
 a26:=Tryz.isAgg3
 z26:=Tryz.sizeOf3
 v26:=Tryz.zeroValue3
 t27:=Tryz.underlying97
 a27:=Tryz.isAgg97
 z27:=Tryz.sizeOf97
 v27:=Tryz.zeroValue97
 t28:=Tryz.underlying98
 a28:=Tryz.isAgg98
 z28:=Tryz.sizeOf98
 v28:=Tryz.zeroValue98
 t33:=Tryz.underlying142
 a33:=Tryz.isAgg142
 z33:=Tryz.sizeOf142
 v33:=Tryz.zeroValue142}
def Tryz.mo:Go.Shelf.Ren:=⟨fun|8=>84|11=>118|n=>n,fun|26=>3|28=>98|24=>34|0=>0|33=>142|4=>4|n=>n,fun|n=>n⟩
theorem Tryz.tE:Go.Proofs.SlLaysZI.n8 Tryz.prog Tryz.mo:={
 mixed:=by kernel_rfl
 f8:=⟨Tryz.f84.name,by decide,Tryz.func84.trans (congrArg some (by kernel_rfl))⟩
 f11:=⟨Tryz.f118.name,by decide,Tryz.func118.trans (congrArg some (by kernel_rfl))⟩
 t0:=Tryz.underlying0
 a0:=Tryz.isAgg0
 z0:=Tryz.sizeOf0
 v0:=Tryz.zeroValue0
 t24:=Tryz.underlying34
 a24:=Tryz.isAgg34
 z24:=Tryz.sizeOf34
 v24:=Tryz.zeroValue34
 t26:=Tryz.underlying3
 a26:=Tryz.isAgg3
 z26:=Tryz.sizeOf3
 v26:=Tryz.zeroValue3
 t28:=Tryz.underlying98
 a28:=Tryz.isAgg98
 z28:=Tryz.sizeOf98
 v28:=Tryz.zeroValue98
 i26:=by kernel_rfl}
end Go.Proofs
namespace Go.Bu
open Go Go.Vc Go.Proofs Go.RowKit Go.Maps Go.Sort Go.Shelf
variable {U:Hp}
def mM (B:Nat)(h:Hp)(s:Sl)(xs:List Value):Prop:=
 s.len=xs.length/\(xs=[]/\s.a=none\/∃b cs,B<=b/\s.a=some ⟨b,0,none⟩/\bX h b cs/\∀j,j<xs.length->cs[j]?=xs[j]?)
theorem mM.bS {B:Nat}{h h':Hp}{s:Sl}{xs:List Value}{F:Nat->Prop}(hs:mM B h s xs)(e:Ext F h h')(hF:∀b,F b->b<B):mM B h' s xs:=by
 refine⟨hs.1,hs.2.imp id ?_⟩;rintro⟨b,cs,hb,ha,hk,hc⟩;exact⟨b,cs,hb,ha,e.bU hk (λa=>by have:=hF b a;omega),hc⟩
theorem mM.mono {B B':Nat}{h:Hp}{s:Sl}{xs:List Value}(hs:mM B h s xs)(hB:B'<=B):mM B' h s xs:=by
 refine⟨hs.1,hs.2.imp id ?_⟩;rintro⟨b,cs,hb,ha,hk,hc⟩;exact⟨b,cs,O,ha,hk,hc⟩
theorem mM.od {B:Nat}{h:Hp}{s:Sl}{xs:List Int}(hs:mM B h s (xs.map (Value.int .i64))){i:Nat}{x:Int}(hx:xs[i]?=some x){K:Int->Prop}(hK:K x) :
 Ix s.a s.len (i:Int) 1 λa=>gP .i64 a h K:=by
 have d:i<xs.length:=(cX.1 hx).1;rcases hs.2 with⟨h0,_⟩|⟨b,cs,_,ha,hb,hc⟩
 ·simp at h0;subst h0;simp at d
 ·rw[ha];refine ix O (by rw[hs.1];simp;omega) ?_;rw[add_lit];refine m9 ?_ hK;rw[hb.cell];have:=hc i (by simpa using d);simpa[hx]using this
theorem U7 {w w':World}(h:Below w.heap.size w w'):bK w.heap w'.heap:=⟨h.size,λb a _=>h.block b a⟩
theorem xL {n:Nat}{w w':World}(h:Below n w w'):Xa w w':=⟨h.os,h.tape,h.output,h.size⟩
def sC:Nat:=Tryz.ij.f 10
def Bo:Nat:=Tryz.ij.t 23
theorem Jc (m:Option Nat){R:Fv->Hp->Prop}(hR:R ⟨sC,#[],#[.pointer (some ⟨U.size,0,none⟩)]⟩ (U.push (.cells #[.map m] Bo (0,0)))) :
 Z2.c m U R:=by
 rintro w rfl;refine(callsIn_wide.1 (AnyZI.keys_in Tryz.l3 Fence.wide 5 trivial rfl m w)).mono ?_;rintro e a ⟨rfl,rfl⟩;exact⟨⟨rfl,rfl,rfl,rq (by show _<(w.heap.push _).size;simp)⟩,[.func (.func sC) #[] #[.pointer (some ⟨w.heap.size,0,none⟩)]],rfl,⟨sC,#[],#[.pointer (some ⟨w.heap.size,0,none⟩)]⟩,rfl,hR⟩
def nu (x:Int):Prop:=-9223372036854775808<=x/\x<=9223372036854775807
theorem Up {P:Program}{kt:Nat}(hk:P.underlying kt=some (.int .i64)){w:World}{m:Nat}{c:CK}{B:List (Int×c.T)}(h:dI w.heap m .i64 c B)(hb:∀x∈B,nu x.1)(hs:B.length<=1000000) :
 ∃D:DataW Unit,w.ownsMap P kt (λ_=>some (.nil,[])) m B.length D/\(intKeys D).Perm (B.map (·.1))/\Maps.size D=B.length:=by
 obtain⟨d,z,L,s,J,G,C⟩:=h;have i:d.size=B.length:=by simpa using congrArg List.length s
 have j:∀e∈d.toList,∃x:Int,e.key=.int .i64 x/\nu x:=by
  intro e hme;have:(e.key,e.val)∈d.toList.map (λe=>(e.key,e.val)):=we hme;rw[s]at this;obtain⟨y,H,e2⟩:=zF.1 this;simp only[Prod.mk.injEq]at e2;exact⟨y.1,e2.1.symm,hb y H⟩
 have wf:∀x:Int,nu x->(Lit.int .i64 x).wf=true:=by
  rintro x ⟨u,N⟩;simp[Lit.wf,IntKind.min,IntKind.max,IntKind.bits,IntKind.signed];omega
 have r:∀e∈d.toList,∃x:Int,e.key=.int .i64 x/\Go.WideElems.rd P kt (λ_=>some ((.nil:DataW Unit),[])) e=some (.int .i64 x,.nil):=by
  intro e hme;obtain⟨x,g,M⟩:=j e hme;refine⟨x,g,?_⟩;simp[Go.WideElems.rd,keyOf,hk,g,mapKey,wf x M]
 refine⟨.map ((d.toList.map (Go.WideElems.rg P kt (λ_=>some (.nil,[])))).foldr DataW.insert []),⟨d,z,L,⟨?_,⟨λx g=>C x g,?_,?_⟩,λx g=>?_⟩,O,rfl⟩,?_,?_⟩
 ·have:1000000<=maxLen:=by unfold maxLen;omega
  omega
 ·exact G.imp (λh=>tJ h)
 ·have F:d.toList.map (·.key)=(B.map (·.1)).map (Value.int .i64):=by
   have:=congrArg (List.map Prod.fst) s;simpa[lV,Function.comp_def]using this
  rw[F];exact List.Pairwise.map _ (λa b (A:a≠b) E=>A (by simpa using E)) J
 ·obtain⟨Q,_,u⟩:=r x g;exact⟨_,u⟩
 ·simp only[intKeys];refine((Go.WideShapes.sorted_perm _).map _).trans ?_;rw[lV];have:d.toList.map ((λp=>Go.intOf p.1)∘Go.WideElems.rg P kt (λ_=>some ((.nil:DataW Unit),[])))=B.map (·.1):=by
   have F:d.toList.map (·.key)=(B.map (·.1)).map (Value.int .i64):=by
    have:=congrArg (List.map Prod.fst) s;simpa[lV,Function.comp_def]using this
   have K:d.toList.map ((λp=>Go.intOf p.1)∘Go.WideElems.rg P kt (λ_=>some ((.nil:DataW Unit),[])))=(d.toList.map (·.key)).map (λv=>match v with | .int _ x=>x|_=>0):=by
    rw[lV];apply j5;intro e hme;obtain⟨x,g,u⟩:=r e hme;simp[Function.comp,Go.WideElems.rg,u,g,Go.intOf]
   rw[K,F,lV]
   conv=>rhs;rw[←tj (B.map (·.1))]
   rfl
  rw[this]
 ·simp only[Maps.size];rw[(Go.WideShapes.sorted_perm _).length_eq];simp[i]
theorem Ab {w:World}{B e n:Nat}{v:Value}{xs:List Value}(h:w.ownsRow B e 1 v n xs):∃s:Sl,v=.slice s.a s.len s.cap/\mM B w.heap s xs:=by
 obtain⟨b,h⟩:=h;rcases h with⟨rfl,rfl⟩|⟨g,cap,cur,rfl,hb,hg,_,_,hcs,ht⟩
 ·exact⟨⟨none,0,0⟩,rfl,by simp at b;simp[b],.inl ⟨by simpa using b,rfl⟩⟩
 ·refine⟨⟨some ⟨g,0,none⟩,n,cap⟩,rfl,by simp at b;simp[b],.inr ⟨g,cur.toList,hb,rfl,⟨e,by simpa using hg⟩,λj d=>?_⟩⟩;rw[←ht,zj,zC O]
theorem Lz {w:World}{c m:Nat}{B:List (Int×Bool)}(hc:cell w.heap ⟨c,0,none⟩=some (.map (some m)))(hm:dI w.heap m .i64 .b B)(hb:∀x∈B,nu x.1)(hs:B.length<=1000000)(n:Nat)(hn:1<=n) :
 SeqGives Fence.wide n Tryz.prog sC #[.pointer (some ⟨c,0,none⟩)] encZ (λss=>ss.Perm (B.map (·.1))) B.length w:=by
 obtain⟨D,r,i,a⟩:=Up (P:=Tryz.prog) Tryz.l3.t26 hm hb hs;have d:c<w.heap.size:=by
  unfold cell at hc;split at hc
  ·rename_i h;exact(zy.1 h).1
  ·cases hc
 have:=AnyZI.keys_gives (ρ:=Tryz.ij) {Tryz.l3 with} Fence.wide n trivial rfl hn c m B.length D w d hc r;intro l J W hW hJ hY h0;rw[a]at this;refine(this l J W hW hJ hY h0).mono ?_;rintro e W' ⟨g,ss,p,j⟩;exact⟨g,ss,p.trans i,j⟩
theorem O3 {c m:Nat}{B:List (Int×Bool)}(hc:cell U ⟨c,0,none⟩=some (.map (some m)))(hm:dI U m .i64 .b B)(hb:∀x∈B,nu x.1)(hs:B.length<=1000000){R:Sl->Hp->Prop}
 (hR:∀(s:Sl) (σ':Hp) (ss:List Int),bK U σ'->ss.Perm (B.map (·.1))->mM U.size σ' s (ss.map (Value.int .i64))->R s σ') :
 KJ.c ⟨sC,#[],#[.pointer (some ⟨c,0,none⟩)]⟩ U R:=by
 rintro w rfl;have i:=Lz hc hm hb hs 3 O;have p:B.length<=maxLen:=by unfold maxLen;omega
 have y:=AnyZI.collect_in Tryz.tE Fence.wide 5 trivial trivial rfl O sC #[.pointer (some ⟨c,0,none⟩)] trivial (Tryz.l3.f10.enters rfl) _ _ p O _ i;refine(callsIn_wide.1 y).mono ?_;rintro e z ⟨v,ss,rfl,u,g,r,d⟩;obtain⟨s,rfl,j⟩:=Ab g;exact⟨xL d,[.slice s.a s.len s.cap],rfl,s,rfl,hR s _ ss (U7 d) u j⟩
end Go.Bu
namespace Go.Bu
open Go Go.Vc Go.Proofs
variable {U:Hp}{p n sb:Nat}{S:Nat->Bool}{ms:List Nat}
theorem Nd {B:Nat}{s:Sl}{xs:List Int}(hs:mM B U s (xs.map (Value.int .i64)))(hl:xs.length<1000000000){m:Int}(hm:m∈xs)(hle:∀y∈xs,m<=y){R:aN}(hR:R m U):XI.c s U R:=by
 refine XI.o ?_;unfold XI.v;have u:s.len=xs.length:=by simpa using hs.1
 have g:0<xs.length:=List.length_pos_of_mem hm;refine Jn.intro (fM O ?_);have A:xs[0]?=some xs[0]:=by simp[g]
 refine hs.od (i:=0) A ?_;refine HD (a:=bN) (bb:=bN) (λ(c t:Int) w=>∃k:Nat,t=(k:Int)/\k<=xs.length/\w=U/\c∈xs/\∀(j:Nat) (y:Int),j<k->xs[j]?=some y->c<=y) (λ_ t _=>xs.length-t.toNat)
  ⟨1,rfl,O,rfl,j3 _,λj y p d=>?_⟩ ?_
 ·have:j=0:=by omega
  subst this;rw[A]at d;cases d;omega
 rintro c t w ⟨k,rfl,G,rfl,z,b⟩;refine cR (λD=>?_) (λC=>?_)
 ·have r:k<xs.length:=by omega
  have x:xs[k]?=some xs[k]:=by simp[r]
  refine hs.od x (cQ (m:=k+1) O O ⟨⟨k+1,rfl,O,rfl,?_,λj y p d=>?_⟩,O⟩)
  ·split
   ·exact j3 _
   ·exact z
  ·by_cases e:j=k
   ·subst e;rw[x]at d;cases d;split<;>omega
   ·have:=b j y O d;split<;>omega
 ·have:k=xs.length:=by omega
  subst this;obtain⟨j,p,e⟩:=sx hm;have F:=b j m p (by simp[p,e]);have E:=hle c z;have:c=m:=Int.le_antisymm F E;rw[this];exact hR
def QZ (n:Nat)(S:Nat->Bool)(k:Nat):List Nat:=((List.range n).filter (can S k)).map (· * 2^k)
theorem NG (hb:Bounded S n){k q:Nat}(hc:can S k q=true):q<n:=by
 have:=Zx hb (Zn.1 hc).1;have a:=ka k;have b:q<=q*2^k:=Nat.le_mul_of_pos_right _ a;omega
theorem Qr (hb:Bounded S n){k x:Nat}:x∈QZ n S k↔∃q,x=q*2^k/\can S k q=true:=by
 simp only[QZ,zF,zI,zh];constructor
 ·rintro⟨q,⟨_,hc⟩,rfl⟩;exact⟨q,rfl,hc⟩
 ·rintro⟨q,rfl,hc⟩;exact⟨q,⟨NG hb hc,hc⟩,rfl⟩
theorem UL (n:Nat)(S:Nat->Bool)(k:Nat):(QZ n S k).Pairwise (· < ·):=by
 unfold QZ;refine List.Pairwise.map _ (λa b h=>Nat.mul_lt_mul_of_pos_right h (ka k)) ?_;exact List.Pairwise.sublist qU List.pairwise_lt_range
theorem U9 (n:Nat)(S:Nat->Bool)(k:Nat):(QZ n S k).length=many n S k:=by
 simp[QZ,many,vp]
theorem EP {k:Nat}{B:List (Int×Bool)}(hK:Keys S k B)(hn:(B.map (·.1)).Nodup)(hb:Bounded S n):(B.map (·.1)).Perm ((QZ n S k).map λ(x:Nat)=>(x:Int)):=by
 rw[yR hn]
 ·intro x;simp only[zF];constructor
  ·rintro⟨⟨x1,x2⟩,hm,rfl⟩;obtain⟨_,q,g,d⟩:=hK.1 x1 x2 hm;exact⟨_,(Qr hb).2 ⟨q,rfl,d⟩,g.symm⟩
  ·rintro⟨y,hy,rfl⟩;obtain⟨q,rfl,d⟩:=(Qr hb).1 hy;exact⟨_,hK.2 q d,rfl⟩
 ·refine List.Pairwise.map _ (λa b (i:a<b)=>?_) (UL n S k);intro e;have:a=b:=by exact_mod_cast e
  omega
theorem JR {k:Nat}{B:List (Int×Bool)}(hK:Keys S k B)(hb:Bounded S n)(hn:n<=1024):∀x∈B,nu x.1:=by
 rintro⟨x,v⟩ hx;obtain⟨_,q,rfl,a⟩:=hK.1 x v hx;have:=Zx hb (Zn.1 a).1;have:=ka k;constructor<;>simp only<;>omega
theorem Ol (h:BH U p n S sb ms){k:Nat}(hk:ms.length<=k):QZ n S k=[]:=by
 rw[List.eq_nil_iff_forall_not_mem];intro x hx;obtain⟨q,_,a⟩:=(Qr h.iZ).1 hx;have:=h.fits (Zx h.iZ (Zn.1 a).1);omega
theorem Nl {h:Hp}{v:Value}{e:Nat}:cell (h.push (.cells #[v] e (0,0))) ⟨h.size,0,none⟩=some v:=by simp[cell]
theorem Ux (h:Hp)(o:Obj):bK h (h.push o):=Ext.push _ _ _
def fB (a:Int):Bool:=(List.range 11).any λk=>a==((2^k:Nat):Int)
theorem JA:(List.range 1025).all (λa=>a==0||((a &&& (a-1))==0)==((List.range 11).any λk=>a==2^k))=true:=by decide +kernel
theorem Gy {a:Nat}(h1:1<=a)(h2:a<=1024):((a &&& (a-1))==0)=((List.range 11).any λk=>a==2^k):=by
 have:=zr.1 JA a (zh.2 O);simp only[mP,zV]at this;rcases this with h|h
 ·omega
 ·exact h
theorem VM (a:Nat):fB (a:Int)=((List.range 11).any λk=>a==2^k):=by
 unfold fB
 congr 1
 funext k
 rw[mq];simp only[zV];exact⟨λh=>by exact_mod_cast h,λh=>by exact_mod_cast h⟩
def fo (aF align:Int):Bool:=decide (1<=aF)&&(decide (aF<=1024)&&(decide (1<=align)&&(decide (align<=1024)&&fB align)))
def Zr (n:Nat)(S:Nat->Bool)(aF align:Nat):Nat->Option Nat
 | 0=>none
 | k+1=>match Zr n S aF align k with
  | some x=>some x
  | none=>if aF<=2^k/\align<=2^k then(QZ n S k).head? else none
def YW (n:Nat)(S:Nat->Bool)(aF align:Nat):Option Nat:=Zr n S aF align 11
def iH (n:Nat)(S:Nat->Bool)(aF align:Int):Int:=if fo aF align then(match YW n S aF.toNat align.toNat with|some _=>0|none=>6)else 1
def iN (n:Nat)(S:Nat->Bool)(aF align:Int):Nat:=if fo aF align then(match YW n S aF.toNat align.toNat with|some x=>x|none=>0)else 0
def iF (n:Nat)(S:Nat->Bool)(aF align:Int):Nat->Bool:=if fo aF align then(match YW n S aF.toNat align.toNat with|some x=>take S x (x+aF.toNat)|none=>S)else S
theorem MS {n:Nat}{S:Nat->Bool}{m a k x:Nat}(h:Zr n S m a k=some x):∀j,k<=j->Zr n S m a j=some x:=by
 intro j hj
 induction j with
 | zero=>
  have:k=0:=by omega
  subst this;exact h
 | succ j ih=>
  by_cases e:k=j+1
  ·subst e;exact h
  ·simp only[Zr,ih O]
theorem OS (h:BH U p n S sb ms){m a:Nat}(hn:Zr n S m a ms.length=none):∀j,ms.length<=j->Zr n S m a j=none:=by
 intro j hj
 induction j with
 | zero=>
  have:ms.length=0:=by omega
  rw[this]at hn;exact hn
 | succ j ih=>
  by_cases e:ms.length=j+1
  ·rw[←e];exact hn
  ·simp only[Zr,ih O,Ol h (show ms.length<=j by omega)];simp
theorem NO {k:Nat}(hpos:0<many n S k):∃x rest,QZ n S k=x::rest:=by
 rw[←U9]at hpos
 match h:QZ n S k with
 | []=>rw[h]at hpos;simp at hpos
 | x::r=>exact⟨x,r,rfl⟩
theorem kE (h:BH U p n S sb ms)(aF align:Int){R:Int->Int->Hp->Prop}
 (hR:∀σ',Ext (· ∈ ms) U σ'->BH σ' p n (iF n S aF align) sb ms->R ((iN n S aF align:Nat):Int) (iH n S aF align) σ'):Xy.c (aW p) aF align U R:=by
 refine Xy.o ?_;unfold Xy.v;have hn2:=h.n2;have hl:=h.len;have K:fo aF align=false->R 0 1 U:=λe=>by
  have:=hR U (Ext.refl _ _);simp only[iF,iN,iH,e,za,zp]at this;exact this h
 have g:¬(1<=aF/\aF<=1024/\1<=align/\align<=1024)->R 0 1 U:=λhn=>K (by
  simp only[fo,←Bool.and_assoc,←sW];rw[zM];rfl;omega)
 refine yS h (cE rfl (bR.intro ?_));refine cR (λh1=>bR.intro (cB rfl (bR.intro (cB rfl (bR.intro (cB rfl (cB rfl (g O)))))))) λh1=>?_;refine bR.intro (cR (λh2=>bR.intro (cB rfl (bR.intro (cB rfl (cB rfl (g O)))))) λh2=>?_);refine bR.intro (cR (λh3=>bR.intro (cB rfl (cB rfl (g O)))) λh3=>?_);refine bR.intro (cR (λh4=>cB rfl (g O)) λh4=>?_);obtain⟨a,rfl⟩:=zY (show 0<=align by omega);obtain⟨m,rfl⟩:=zY (show 0<=aF by omega);refine cQ (m:=a-1) O O ?_;rw[iM O O];have M:((((a &&& (a-1):Nat):Int)) != 0) = !fB (a:Int):=by
  rw[VM,←Gy O O];simp only[bne,Bool.not_inj_iff];rw[mq];simp only[zV];omega
 rw[M];cases Q:fB (a:Int)
 ·refine cB rfl (K ?_);simp[fo,Q]
 refine cE rfl ?_;have N:fo (m:Int) (a:Int)=true:=by
  simp only[fo,Q,sK,zE,zS];omega
 refine aG (h.rB λcap=>?_);refine Z5 (a:=bN) (λt F=>∃k:Nat,t=(k:Int)/\k<=ms.length/\F=U/\Zr n S m a k=none) (λt _=>ms.length-t.toNat) ⟨0,rfl,O,rfl,rfl⟩ ?_;rintro t F ⟨k,rfl,hk,rfl,r⟩;refine cR (λX=>?_) (λhge=>?_)
 ·simp only at X;obtain⟨mm,hm⟩:=h.get (k:=k) O;refine h.rM hm (lK O (bR.intro ?_));have next:Zr n S m a (k+1)=none->Ar .i64 ((k:Int)+1) λG=>(∃k:Nat,G=(k:Int)/\k<=ms.length/\F=F/\Zr n S m a k=none)/\ms.length-G.toNat<ms.length-(k:Int).toNat:=
   λH=>cQ (m:=k+1) O O ⟨⟨k+1,rfl,O,rfl,H⟩,O⟩
  refine cR (λL=>?_) (λY=>cE rfl (next ?_))
  ·have j:m<=2^k/\a<=2^k:=by
    have:((if(a:Int)>(m:Int)then(a:Int)else(m:Int))<=((2^k:Nat):Int)):=L
    split at this<;>omega
   refine h.kD hm ?_;refine cR (λhpos=>?_) (λhz=>next ?_)
   ·have w:0<many n S k:=by omega
    obtain⟨x,rest,P⟩:=NO w;obtain⟨q,rfl,hc⟩:=(Qr h.iZ (k:=k) (x:=x)).1 (by rw[P];simp);have A:YW n S m a=some (q*2^k):=by
     refine MS (k:=k+1) ?_ 11 O;simp only[Zr,r,zC j,P,List.head?_cons]
    have hfb:=Zx h.iZ (Zn.1 hc).1;obtain⟨B,hB,D⟩:=h.maps k mm hm;have d:=DC D hB.nodup h.iZ;have hle:B.length<=1024:=by
     rw[d];have:=List.countP_le_length (p:=can S k) (l:=List.range n);simp only[many,vG]at *;omega
    refine Jc _ ?_;have e1:=Ux F (.cells #[.map (some mm)] Bo (0,0));refine O3 Nl (e1.fK hB id) (JR D h.iZ h.n2) O λs σ' ss e2 Q Z=>?_;have E:=Q.trans (EP D hB.nodup h.iZ);have u:=E.length_eq;simp only[zl]at u;rw[U9,←d]at u;refine Nd Z O (m:=((q*2^k:Nat):Int)) (E.mem_iff.2 (by rw[P];simp)) (λy hy=>?_) ?_
    ·have C:=E.mem_iff.1 hy;have b:=UL n S k;rw[P]at C b;simp only[zU,zX,zF]at C;rcases C with rfl|⟨z,hz,rfl⟩
     ·omega
     ·have:=(qd.1 b).1 z hz;omega
    ·have W:=(h.bO e1).bO e2;refine JC W O (λy hy1 hy2=>Vp hc (ZT.2 O)) λh3 e3 V=>?_;have:=hR h3 ((e1.to.trans e2.to).trans e3);simp only[iF,iN,iH,N,dC,A,zP]at this;exact this V
   ·simp only[Zr,r,zC j];have:QZ n S k=[]:=ya (by rw[U9];omega);rw[this];rfl
  ·have J:¬(m<=2^k/\a<=2^k):=by
    have:¬((if(a:Int)>(m:Int)then(a:Int)else(m:Int))<=((2^k:Nat):Int)):=Y
    split at this<;>omega
   simp only[Zr,r,zB J]
 ·simp only at hge;have:k=ms.length:=by omega
  subst this;have A:YW n S m a=none:=OS h r 11 O;have:=hR F (Ext.refl _ _);simp only[iF,iN,iH,N,dC,A,zP]at this;exact this h
end Go.Bu
namespace Go.Ar
open Go.Bu
structure AR where
 n:Nat
 room:Nat
 tb:List bZ
 S:Nat->Bool
 st:List Nat
 ow:Nat->Nat
 cD:List (List cF)
 cM:List fX
 runs:List (Nat×Nat)
def AR.ck (A:AR)(k:Int):Bool:=decide (0<=k)&&decide (k<(A.tb.length:Int))
def Vo (A:AR)(r:Nat×Nat):AR:={A with ow:=jl A.ow r.1 r.2 0,st:=VW A.st r.1 r.2 2 [1],S:=Ql A.n A.S r.1 r.2}
def VF (A:AR)(rs:List (Nat×Nat)):AR:=rs.foldl Vo A
def cU (sp:Sp)(size:Nat):Option Nat:=((List.range (sp.st.length/size)).map (· * size)).find? λs=>s != 0&&eT sp s size==0
def Ub (st:List Nat)(a m:Nat):List Nat:=((List.range m).map (a + ·)).foldl (λl (h:Nat)=>iE l h) st
def Ud (A:AR)(sp:Sp)(size:Nat):Option (AR×Sp):=match cU sp size with
 | none=>none
 | some s=>some ({A with st:=Ub A.st (s/16) (size/16),S:=Ql A.n A.S s size},fN sp s size)
def QG (m:Nat):Nat:=if m<=16 then 16 else if m<=32 then 32 else 64
def dN (A:AR)(x aF no:Nat):AR:={A with S:=take A.S x (x+aF),st:=VW A.st x aF 1 [2,3],ow:=jl A.ow x aF no}
def cV (A:AR)(sp:Sp)(aF align no:Nat):Option Nat×AR×Sp:=match YW A.n A.S aF align with
 | some x=>(some x,dN A x aF no,sp)
 | none=>match Ud A sp (QG (max aF align))with
  | none=>(none,A,sp)
  | some (A',sp')=>match YW A'.n A'.S aF align with
   | some x=>(some x,dN A' x aF no,sp')
   | none=>(none,A',sp')
def ZP (A:AR)(k:Int):Int:=if A.ck k then(match A.cM[k.toNat]? with
 | some t=>if t.bs=[]then 4 else 0
 | none=>5)else 1
def Yg (A:AR)(k:Int):List Int:=if ZP A k=0 then(match A.cM[k.toNat]? with
 | some t=>t.bs.getLast?.getD []
 | none=>[])else[]
def Zo (A:AR)(k:Int):AR:=if ZP A k=0 then{A with cM:=A.cM.modify k.toNat fX.rem}else A
def UB (A:AR)(k:Int)(xs:List Int):Int:=if A.ck k then(match A.tb[k.toNat]?,A.cD[k.toNat]? with
 | some c,some ss=>if xs.length=c.batch then(if xs.all (λx=>dT c ss x==some true)then 0 else 8)else 1
 | _,_=>5)else 1
def KE (A:AR)(k:Int)(xs:List Int):Bool:=decide (UB A k xs=0)&&(match A.cM[k.toNat]? with
 | some t=>decide (t.bs.length<A.room)
 | none=>false)
def QL (A:AR)(k:Int)(xs:List Int):AR:=if KE A k xs then{A with cM:=A.cM.modify k.toNat λt=>{t with bs:=t.bs++[xs]}}else A
def Qh (A:AR)(k m:Int):Int:=if A.ck k then(if m<0 then 1 else 0)else 1
def KP (A:AR)(k m:Int):List Nat×List cF:=match A.tb[k.toNat]?,A.cD[k.toNat]? with
 | some c,some ss=>QJ c m.toNat ss
 | _,_=>([],[])
def X1 (A:AR)(k m:Int):List Nat:=if Qh A k m=0 then(KP A k m).1 else[]
def Yk (A:AR)(k m:Int):AR:=if Qh A k m=0 then{A with cD:=A.cD.set k.toNat (KP A k m).2}else A
def Qx (A:AR)(k:Int)(xs:List Int):Int:=if A.ck k then(match A.tb[k.toNat]?,A.cD[k.toNat]? with
 | some c,some ss=>iq c ss xs
 | _,_=>5)else 1
def Zl (A:AR)(k:Int)(xs:List Int):AR:=if Qx A k xs=0 then(match A.tb[k.toNat]?,A.cD[k.toNat]? with
 | some c,some ss=>VF {A with cD:=A.cD.set k.toNat (cK (xs.foldl (eW c) ss))} ((Z9 (xs.foldl (eW c) ss)).map λs=>(s,c.aF))
 | _,_=>A)else A
def Ks (A:AR)(sp:Sp)(k:Int):Int:=if A.ck k then(match A.tb[k.toNat]?,A.cD[k.toNat]? with
 | some c,some ss=>(match (cV A sp c.aF 1 (k.toNat+1)).1 with
  | some x=>HC c ss x
  | none=>6)
 | _,_=>5)else 1
def cL (A:AR)(sp:Sp)(k:Int):AR×Sp:=if A.ck k then(match A.tb[k.toNat]?,A.cD[k.toNat]? with
 | some c,some ss=>(match cV A sp c.aF 1 (k.toNat+1)with
  | (some x,A',sp')=>(if HC c ss x=0 then{A' with cD:=A'.cD.set k.toNat (gU c ss x)}else A',sp')
  | (none,A',sp')=>(A',sp'))
 | _,_=>(A,sp))else(A,sp)
def QR (m a:Int):Bool:=decide (1<=m)&&(decide (m<=64)&&(a==1||(a==2||(a==4||(a==8||a==16)))))
def Qd (A:AR)(sp:Sp)(m a:Int):Int:=if QR m a then(if(cV A sp m.toNat a.toNat 41).1.isSome then 0 else 6)else 1
def ZO (A:AR)(sp:Sp)(m a:Int):Nat:=if QR m a then(cV A sp m.toNat a.toNat 41).1.getD 0 else 0
def cA (A:AR)(sp:Sp)(m a:Int):AR×Sp:=if QR m a then(match cV A sp m.toNat a.toNat 41 with
 | (some x,A',sp')=>({A' with runs:=mset2 A'.runs x m.toNat},sp')
 | (none,A',sp')=>(A',sp'))else(A,sp)
where mset2 (l:List (Nat×Nat)) (x m:Nat):List (Nat×Nat):=if l.any (λr=>r.1==x)then l.map (λr=>if r.1==x then(x,m)else r)else l++[(x,m)]
def og (A:AR)(x:Int):Option (Nat×Nat):=A.runs.find? λr=>(r.1:Int)==x
def Ku (A:AR)(x:Int):Int:=if(og A x).isSome then 0 else 8
def Qi (A:AR)(x:Int):AR:=match og A x with
 | some r=>Vo {A with runs:=A.runs.filter λq=>!((q.1:Int)==x)} r
 | none=>A
def pZ (A:AR)(p:Nat):Option (Nat×Nat):=A.runs.find? λr=>decide (r.1<=p)&&decide (p<r.1+r.2)
def Uj (A:AR)(x:Int):Option (Int×Nat):=if x<0 then none else
 let p:=x.toNat/256
 let no:=if p<1024 then A.ow p else 0
 if no=0 then none else if no=41 then(pZ A p).map λr=>(-1,r.1*256)else
 match A.tb[no-1]?,A.cD[no-1]? with
 | some c,some ss=>(pB c ss x).map λa=>(((no-1:Nat):Int),a)
 | _,_=>none
def uD (A:AR)(x:Int):Bool:=match Uj A x with
 | some (k,a)=>if(a:Int)=x then(if k<0 then true else(match A.tb[k.toNat]?,A.cD[k.toNat]? with
  | some c,some ss=>dT c ss x==some true
  | _,_=>false))else false
 | none=>false
def H9 (A:AR)(p:Int):Bool:=decide (0<=p)&&decide (A.st.getD p.toNat 0≠0)
def td (A:AR)(k:Nat):AR:=match A.cM[k]? with
 | some t=>t.out.foldl (λA' xs=>Zl A' k xs) {A with cM:=A.cM.set k t.tick}
 | none=>A
def qz (A:AR):AR:=(List.range A.cM.length).foldl td A
end Go.Ar
namespace Go.Ar
open Go.Vc (bY dG di)
inductive Ph where
 | take (k:Nat)
 | cH (k w:Nat)
 | cI (k w:Nat)
 | grow (k w:Nat)
 | fill
 | eB (m:Nat)
 | find (x:Int)
 | put (k:Nat) (x:Int)
 | back
 | dA (s a:Int)
 | drain
 deriving DecidableEq
structure Th where
 ls:List Li
 bP:List Bt
 ph:Option Ph
structure Cf where
 aF:Nat
 gL:Nat
 threads:Nat
 cZ:Nat
 room:Nat
abbrev Bk:=Int×Int×Int×Int
structure Hw where
 tb:List bZ
 cf:Cf
 sp:Sp
 bV:List AR
 bQ:List Th
 live:List (Int×Bk)
def Yf (bV:List AR)(x:Int):Int:=if x<0 then -1 else match bV.findIdx? (λA=>H9 A (x/256))with
 | some i=>(i:Int)
 | none=>-1
def Hw.own (H:Hw)(t:Nat):Nat:=t%H.bV.length
def Hw.dQ (H:Hw)(t:Nat)(f:Th->Th):Hw:={H with bQ:=H.bQ.modify t f}
def Hw.cC (H:Hw)(k:Nat)(A:AR):Hw:={H with bV:=H.bV.set k A}
def Va (H:Hw)(x size cls:Int):Hw:={H with live:=dG H.live x (x,size,cls,Yf H.bV x)}
def Qq (H:Hw)(t k:Nat)(xs:List Int):Hw:=H.dQ t λh=>{h with bP:=h.bP++[(k,xs)]}
def jI (H:Hw)(t:Nat):Option Ph:=match H.bQ[t]? with
 | some h=>if h.bP=[]then none else some .back
 | none=>none
def Zv (bV:List AR)(xs:List Int)(a:Nat):List Int:=xs.filter λx=>Yf bV x==(a:Int)
def Kz (H:Hw)(k:Nat)(part:Nat->List Int)(l:List Nat):Hw:=l.foldl (λH a=>match H.bV[a]? with
 | some A=>if part a=[]then H else H.cC a (Zl A (k:Int) (part a))
 | none=>H) H
def UV (H:Hw)(own k:Nat)(xs:List Int):Hw:=match H.bV[own]? with
 | some A=>if(Zv H.bV xs own).length=xs.length/\KE A (k:Int) xs=true then H.cC own (QL A (k:Int) xs)
  else Kz (if(Zv H.bV xs own).length=xs.length then H.cC own (QL A (k:Int) xs)else H) k (Zv H.bV xs) (List.range H.bV.length)
 | none=>H
abbrev qR:=Hw×Option Ph×Int×Int
def kL (H:Hw)(x:Int):Int:=if 0<=Yf H.bV x then(match H.bV[(Yf H.bV x).toNat]? with
 | some A=>(match Uj A x with
  | some (k,y)=>if 0<=k/\(y:Int)=x then 9 else 8
  | none=>8)
 | none=>8)else 8
def Uq (H:Hw)(t:Nat)(x:Int):qR:=match bY H.live x with
 | none=>(H,none,0,kL H x)
 | some b=>if b.2.2.1<0 then({H with live:=di H.live x},some (.dA (x/256) b.2.2.2),0,0)
  else(Qq {H with live:=di H.live x} t b.2.2.1.toNat [x],some (.put b.2.2.1.toNat x),0,0)
def Hw.jJ (H:Hw)(t:Nat):Th:=H.bQ.getD t ⟨[],[],none⟩
def Hw.cls (H:Hw)(k:Nat):bZ:=H.tb.getD k ⟨8,1,1⟩
def Hw.dZ (H:Hw)(t:Nat):AR:=H.bV.getD (H.own t) ⟨0,0,[],λ_=>false,[],λ_=>0,[],[],[]⟩
def Th.li (h:Th)(k:Nat):Li:=h.ls.getD k gS
def Th.hU (h:Th)(k:Nat)(l:Li):Th:={h with ls:=h.ls.set k l}
def ic (H:Hw)(t k:Nat)(x:Int):Hw:=
 let c:=H.cls k
 let l:=(H.jJ t).li k
 let H1:=H.dQ t λh=>h.hU k (dH c x l).2
 let H2:=if(dH c x l).1=[]then H1 else Qq H1 t k (dH c x l).1
 let H3:=H2.dQ t λh=>{h with bP:=h.bP.drop 1}
 if H.cf.cZ<QF H.tb (H3.jJ t).ls then H3.dQ t λh=>{h with ls:=QM Kl H.tb h.ls,bP:=h.bP++QO Kl H.tb h.ls}else H3
def Wt (H:Hw)(t:Nat):Ph->qR
 | .take k=>match QP (H.cls k) ((H.jJ t).li k)with
  | (some x,l)=>(Va (H.dQ t λh=>h.hU k l) x ((H.cls k).size:Int) (k:Int),none,x,0)
  | (none,l)=>(H.dQ t λh=>h.hU k l,some (.cH k (GN (H.cls k) l)),0,0)
 | .cH k w=>if w=(H.cls k).batch then(if ZP (H.dZ t) (k:Int)=0 then(Qq (H.cC (H.own t) (Zo (H.dZ t) (k:Int))) t k (Yg (H.dZ t) (k:Int)),some .fill,0,0)else(H,some (.cI k w),0,0))else(H,some (.cI k w),0,0)
 | .cI k w=>
  let H1:=H.cC (H.own t) (Yk (H.dZ t) (k:Int) (w:Int))
  if X1 (H.dZ t) (k:Int) (w:Int)=[]then(H1,some (.grow k w),0,0)else(Qq H1 t k ((X1 (H.dZ t) (k:Int) (w:Int)).map λ(x:Nat)=>(x:Int)),some .fill,0,0)
 | .grow k w=>
  let r:=cL (H.dZ t) H.sp (k:Int)
  let H1:={H.cC (H.own t) r.1 with sp:=r.2}
  if Ks (H.dZ t) H.sp (k:Int)=0 then(H1,some (.cI k w),0,0)else(H1,none,0,Ks (H.dZ t) H.sp (k:Int))
 | .fill=>match (H.jJ t).bP with
  | (k,x::xs)::_=>(Va (H.dQ t λh=>{ls:=h.ls.set k (dY xs.reverse (h.li k)),bP:=[],ph:=h.ph}) x ((H.cls k).size:Int) (k:Int),none,x,0)
  | _=>(H,none,0,0)
 | .eB m=>
  let r:=cA (H.dZ t) H.sp (m:Int) 1
  let H1:={H.cC (H.own t) r.1 with sp:=r.2}
  let x:Int:=((ZO (H.dZ t) H.sp (m:Int) 1*256:Nat):Int)
  if Qd (H.dZ t) H.sp (m:Int) 1=0 then(Va H1 x ((m*256:Nat):Int) (-1),none,x,0)else(H1,none,0,Qd (H.dZ t) H.sp (m:Int) 1)
 | .find x=>Uq H t x
 | .put k x=>(ic H t k x,jI (ic H t k x) t,0,0)
 | .back=>match (H.jJ t).bP with
  | (k,xs)::r=>
   let H1:=UV (H.dQ t λh=>{h with bP:=r}) (H.own t) k xs
   (H1,jI H1 t,0,0)
  | []=>(H,none,0,0)
 | .dA s a=>(match H.bV[a.toNat]? with
  | some A=>H.cC a.toNat (Qi A s)
  | none=>H,none,0,0)
 | .drain=>
  let H1:=H.dQ t λh=>{h with ls:=QM Zy H.tb h.ls,bP:=QO Zy H.tb h.ls}
  (H1,jI H1 t,0,0)
end Go.Ar
namespace Go.Proofs
open Go.Vc
set_option maxRecDepth 100000
def Zm.h:Hn:=.q .o1 (.q (.q (.cS (.seq [.op,.op,.op,.op,.cO false 3 (RI.ops 3)])) .aK) (.q (.q .o3 (.k (.loop [(15,.I)] (.q .o1 (.q (.c .l .l) (.q (.k (.q .o6 (.q (.cS (.gQ true [1] [(37,.one .b)] (.take 0 (.all [(1,.take 2 (.take 3 (.split 23 (.take 4 (.take 5 (.take 6 (.take 7 (.take 8 (.take 9 (.take 10 (.take 11 (.take 12 (.take 13 (.take 14 (.take 15 (.take 16 (.take 17 (.done))))))))))))))) (.take 4 (.take 5 (.take 6 (.split 26 (.take 7 (.take 9 (.take 10 (.take 11 (.take 12 (.take 13 (.all [(8,.all [(14,.take 15 (.take 16 (.take 17 (.done))))]),(14,.all [(8,.take 15 (.take 16 (.take 17 (.done))))])]))))))) (.take 7 (.take 8 (.take 9 (.take 10 (.take 11 (.take 12 (.take 13 (.take 14 (.take 15 (.take 16 (.take 17 (.done)))))))))))))))))))])))) .aK))) .o2)))))) .aM))
def Zm.v (a:Sl)(b:Hp)(c:aO):Prop:=bR (λd e=>If d (c false e) (YC [bN] (λf=>f 0 e) λg (h:Int) i=>If (h<((a.len:Nat):Int)) (Ix a.a a.len h 3 λj=>aQ j 0 i λk=>aQ j 1 i λl=>aQ j 2 i λm=>aV #[.I 0,.I 0,.I 0] 137 i λn o=>aR n 0 (.I k) o λp=>aR n 1 (.I l) p λq=>aR n 2 (.I m) q λr=>Jn [.b] (λ(s:Bool) t=>If s (c false t) (bL (h+1) λu=>g u t)) λv=>eN r λw=>aS w n 0 λx=>aS w n 1 λy=>aS w n 2 λz=>Qk.c x y z r λaa ab=>If (!aa) (v true ab) (If (h>0) (bL (h-1) λac=>Ix a.a a.len ac 3 λad=>(aQ n 0 ab λae=>aQ ad 0 ab λaf=>v (decide (ae<=af)) ab) ∧ (aQ ad 0 ab λag=>aQ n 0 ab λah=>v (decide (ah<=ag)) ab)) (v false ab))) (c true i))) λai=>If (((a.len:Nat):Int)<1) (ai true b) (ai (decide (((a.len:Nat):Int)>40)) b)
theorem Zm.o {a b c}(d:Zm.v a b c):Zm.c a b c:=Wa Tryz.func140 (x:=Zm.h) (R0 d)
def ZW.h:Hn:=.q .o4 (.q (.k (.q .o4 (.c .aL (.q (.cS (.gQ true [] [(13,.one .b)] (.tk [0,1,2] (.split 16 (.tk [3,4,5,6,7,8,9,10,11,12,13,14,15,16] (.done)) (.tk [3,4,5,6] (.split 20 (.tk [7,8,9,10,11,12,13,14,15,16] (.done)) (.tk [7,8,9,10] (.split 24 (.tk [11,12,13,14,15,16] (.done)) (.take 11 (.take 13 (.all [(12,.take 14 (.take 15 (.take 16 (.done))))]))))))))))) .aJ)))) (.q .o4 (.q (.q .o2 .aJ) (.q .o3 .l))))
def ZW.v (a:Sl)(b c:Int)(d:Hp)(e:Int->Int->Hp->Prop):Prop:=aV #[.I b] 3 d λf g=>aV #[.I c] 3 g λh i=>Zm.c a i λj k=>If (!j) (e 0 2 k) (Jn [.b] (λ(l:Bool) m=>If l (e 0 1 m) (Wl.c a ⟨203,#[],#[.pointer (some f),.pointer (some h)]⟩ m λn o=>If (n<0) (e 0 4 o) (e n 0 o))) λp=>eN k λq=>fV q bN f λ(r:Int)=>If (r<1) (p true k) (fV q bN h λ(s:Int)=>If (s<1) (p true k) (fV q bN h λ(t:Int)=>If (t>256) (p true k) (fV q bN h λ(u:Int)=>fV q bN h λ(v:Int)=>ZU.c u k λw x=>And (q x) <| p (w != v) x))))
theorem ZW.o {a b c d e}(f:ZW.v a b c d e):ZW.c a b c d e:=Wa Tryz.func145 (x:=ZW.h) (R0 f)
def Qk.h:Hn:=.q .o2 (.q (.cS (.seq [.op,.op,.op,.op,.cO true 3 (RI.ops 3),.op,.cO true 4 (RI.ops 4),.op,.cO true 3 (RI.ops 3),.op,.cO true 3 (RI.ops 3),.op,.cO true 6 (RI.ops 6),.op,.cO true 3 (RI.ops 3),.op,.cO true 3 (RI.ops 3),.op])) .l)
def Qk.v (a b c:Int)(d:Hp)(e:aO):Prop:=aV #[.I a,.I b,.I c] 137 d λf g=>aQ f 0 g λh=>bR (λi j=>bR (λk l=>bR (λm n=>bR (λo p=>bR (λq r=>bR (λs t=>bR (λu v=>e u v) λw=>If s (aQ f 2 t λx=>w (decide (x<=32)) t) (w false t)) λy=>If q (aQ f 2 r λz=>y (decide (z≥1)) r) (y false r)) λaa=>If o (aQ f 1 p λab=>bL (ab*256) λac=>aQ f 0 p λad=>aa (decide (ac≥ad)) p) (aa false p)) λae=>If m (aQ f 1 n λaf=>ae (decide (af<=4)) n) (ae false n)) λag=>If k (aQ f 1 l λah=>ag (decide (ah≥1)) l) (ag false l)) λai=>If i (aQ f 0 j λaj=>Nz 8 <| ai ((aj.tmod 8)==0) j) (ai false j)) λak=>If (h≥8) (aQ f 0 g λal=>ak (decide (al<=512)) g) (ak false g)
theorem Qk.o {a b c d e}(f:Qk.v a b c d e):Qk.c a b c d e:=Wa Tryz.func176 (x:=Qk.h) (R0 f)
def Zq.h:Hn:=.q .o2 (.q .o7 .l)
def Zq.v (a b c:Int)(d:Hp)(e:aN):Prop:=aV #[.I a,.I b,.I c] 137 d λf g=>aQ f 1 g λh=>bL (h*256) λi=>aQ f 0 g λj=>Nz j<|bL (i.tdiv j) λk=>e k g
theorem Zq.o {a b c d e}(f:Zq.v a b c d e):Zq.c a b c d e:=Wa Tryz.func177 (x:=Zq.h) (R0 f)
def ZU.h:Hn:=.q .o1 (.q .o1 (.q (.q .o1 (.k (.loop [(3,.I),(4,.I)] (.q (.q .o3 (.c .l .l)) (.q (.k .o2) .o3))))) .aL))
def ZU.v (a:Int)(b:Hp)(c:aN):Prop:=YC [bN,bN] (λd=>d 0 1 b) λe (f:Int) (g:Int) h=>If (g<=a) (bL (g*2) λi=>e g i h) (c f h)
theorem ZU.o {a b c}(d:ZU.v a b c):ZU.c a b c:=Wa Tryz.func201 (x:=ZU.h) (R0 d)
def ZA.h:Hn:=.q .o2 (.q (.cS (.seq [.op,.op,.op,.op,.op,.cO true 5 (RI.ops 5),.op])) .l)
def ZA.v (a b c:Int)(d e:Addr)(f:Hp)(g:aO):Prop:=aV #[.I a,.I b,.I c] 137 f λh i=>aQ h 0 i λj=>bM d i λk=>bR (λl m=>g l m) λn=>If (j≥k) (aQ h 0 i λo=>bM e i λp=>Nz p <| n ((o.tmod p)==0) i) (n false i)
theorem ZA.o {a b c d e f g}(h:ZA.v a b c d e f g):ZA.c a b c d e f g:=Wa Tryz.func203 (x:=ZA.h) (R0 h)
def Zg.h:Hn:=.q .o3 (.q (.q .o3 .aJ) (.q .o4 .l))
def Zg.v (a b c:Int)(d:Hp)(e:Int->Int->Hp->Prop):Prop:=aV #[.I a,.I b,.I c] 137 d λf g=>aQ f 0 g λh=>aQ f 1 g λi=>aQ f 2 g λj=>Qk.c h i j g λk l=>If (!k) (e 0 1 l) (aQ f 0 l λm=>aQ f 1 l λn=>aQ f 2 l λo=>Zq.c m n o l λp q=>e p 0 q)
theorem Zg.o {a b c d e}(f:Zg.v a b c d e):Zg.c a b c d e:=Wa Tryz.func247 (x:=Zg.h) (R0 f)
end Go.Proofs
namespace Go.Ar
open Go Go.Vc Go.Proofs
variable {U:Hp}
theorem DP (x y z:Int){R:aO}(hR:∀σ',bK U σ'->R (VK x y z) σ'):Qk.c x y z U R:=by
 refine Qk.o ?_;unfold Qk.v;refine nw (cs:=[.int .i64 x,.int .i64 y,.int .i64 z]) λh A e b=>?_;have i:VK x y z=false->R false h:=λg=>g▸hR h e;have a:¬(8<=x/\x<=512/\x%8=0/\1<=y/\y<=4/\x<=y*256/\1<=z/\z<=32)->R false h:=λg=>i (by rw[←oT,Uw];exact g);refine b.rI rfl (bR.intro ?_);refine cR (λr=>b.rI rfl (bR.intro ?_)) λr=>?_
 case refine_2=>
  iterate 6 refine bR.intro (cE rfl ?_)
  exact a O
 refine cR (λm=>b.rI rfl (nz aB (bR.intro ?_))) λm=>?_
 case refine_2=>
  iterate 5 refine bR.intro (cE rfl ?_)
  exact a O
 rw[Qz O];refine cY (λd=>b.rI rfl (bR.intro ?_)) λd=>?_
 case refine_2=>
  have:¬x%8=0:=by simpa using d
  iterate 4 refine bR.intro (cE rfl ?_)
  exact a O
 have j:x%8=0:=by simpa using d
 refine cR (λu=>b.rI rfl (bR.intro ?_)) λu=>?_
 case refine_2=>
  iterate 3 refine bR.intro (cE rfl ?_)
  exact a O
 refine cR (λs=>b.rI rfl (ar O O (b.rI rfl (bR.intro ?_)))) λs=>?_
 case refine_2=>
  iterate 2 refine bR.intro (cE rfl ?_)
  exact a O
 refine cR (λp=>b.rI rfl (bR.intro ?_)) λp=>?_
 case refine_2=>exact bR.intro (cE rfl (a O))
 refine cR (λw=>b.rI rfl ?_) λw=>a O;have:decide (z<=32)=VK x y z:=by
  rw[mq,Uw];simp;omega
 rw[this];exact hR h e
theorem I0 {c:bZ}(hc:c.ok){R:aN}(hR:∀σ',bK U σ'->R (c.n:Int) σ'):Zq.c c.size c.aF c.batch U R:=by
 refine Zq.o ?_;unfold Zq.v;have h:=hc;unfold bZ.ok at h;refine nw (cs:=[.int .i64 c.size,.int .i64 c.aF,.int .i64 c.batch]) λh b e a=>?_;refine a.rI rfl (cQ (m:=c.aF*256) aA O (a.rI rfl (nz O ?_)));refine cQ (m:=c.n) ?_ (by have:=hc.jV;omega) (hR _ e);rw[Yi O];simp[bZ.n]
theorem Cn (x y z:Int){R:Int->Int->Hp->Prop}(h1:∀c:bZ,c.ok->x=c.size->y=c.aF->z=c.batch->∀σ',bK U σ'->R (c.n:Int) 0 σ')(h0:VK x y z=false->∀σ',bK U σ'->R 0 1 σ'):Zg.c x y z U R:=by
 refine Zg.o ?_;unfold Zg.v;refine nw (cs:=[.int .i64 x,.int .i64 y,.int .i64 z]) λh m e b=>?_;refine b.rI rfl (b.rI rfl (b.rI rfl (DP _ _ _ λj e2=>?_)));have a:=e2.bU b id;cases hk:VK x y z
 ·exact cB rfl (h0 hk _ (e.trans e2))
 ·obtain⟨c,d,_,rfl,rfl,rfl⟩:=H4 hk;exact cE rfl (a.rI rfl (a.rI rfl (a.rI rfl (I0 d λi g=>h1 c d rfl rfl rfl _ ((e.trans e2).trans g)))))
end Go.Ar