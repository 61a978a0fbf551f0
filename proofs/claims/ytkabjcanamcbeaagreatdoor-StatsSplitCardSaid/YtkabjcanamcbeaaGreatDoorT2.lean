/- Texts joined. -/
import Derived.Deep.Slices
import Derived.Deep.Fields
import Derived.ChangeSame
import Derived.Lib.SmallJoins
import Derived.Below
import Derived.Test.YtkabjcanamcbeaaGreatDoorProg
import Derived.KernelRfl
import Derived.Shelf.SlIterI.Nil
import Derived.Shelf.SortM.Plain
import Derived.Shelf.SortM.SortNone
import Derived.Ground.GgzProg
import Derived.Ground.SlgmProg
import Derived.Shelf.SlMaps.Clone
import Derived.Ground.SlmcProg
import Derived.Test.YtkabjcanamcbeaaGreatDoorT1
set_option linter.unusedVariables false
set_option linter.unusedSimpArgs false
namespace Go.Vc
open Go
abbrev Rg:=Nat->Prop
def dR (P:Hp->Rg->Prop):Prop:=∀σ σ' (F G:Rg),P σ F->σ.size<=σ'.size->(∀b,b<σ.size->F b->G b/\σ'[b]?=σ[b]?)->P σ' G
def Grow (F:Rg)(σ:Hp):Rg:=λb=>F b\/σ.size<=b
theorem dR.mono {P:Hp->Rg->Prop}(hl:dR P){σ:Hp}{F G:Rg}(h:P σ F)(hs:∀b,b<σ.size->F b->G b):P σ G:=hl σ σ F G h (zC _) λb d a=>⟨hs b d a,rfl⟩
theorem dR.bU {P:Hp->Rg->Prop}(hl:dR P){σ σ':Hp}{F T:Rg}(h:P σ F)(e:Ext T σ σ')(hn:∀b,b<σ.size->F b->¬T b):P σ' F:=
 hl σ σ' F F h e.1 λb d a=>⟨a,e.2 b d (hn b d a)⟩
theorem dR.bK {P:Hp->Rg->Prop}(hl:dR P){σ σ':Hp}{F:Rg}(h:P σ F)(e:bO σ σ'):P σ' F:=hl.bU h e λ_ _ _=>id
def Sep {L:Type}(C:L->Hp->Rg->Prop)(σ:Hp)(F:Rg):Prop:=∃ρ:Nat->L,∀i,C i σ λb=>F b/\ρ b=i
variable {L:Type}{C:L->Hp->Rg->Prop}{σ σ':Hp}{F:Rg}
theorem Sep.loc (hC:∀i,dR (C i)):dR (Sep C):=by
 rintro σ j F G ⟨ρ,h⟩ g d;exact⟨ρ,λi=>hC i _ _ _ _ (h i) g λb e a=>⟨⟨(d b e a.1).1,a.2⟩,(d b e a.1).2⟩⟩
theorem Sep.get (h:Sep C σ F)(i:L):∃G:Rg,(∀b,G b->F b)/\C i σ G:=by
 obtain⟨ρ,h⟩:=h;exact⟨_,λb a=>a.1,h i⟩
open Classical in
theorem Sep.pR (hC:∀i,dR (C i))(h:Sep C σ F)(i j:L)(hij:i≠j):∃G H:Rg,(∀b,G b->F b)/\(∀b,H b->F b)/\(∀b,G b->¬H b)/\C i σ G/\C j σ H/\∀(σ':Hp) (C':L->Hp->Rg->Prop) (G' H':Rg),
 (∀k,k≠i->k≠j->C' k=C k)->Ext (λb=>G b\/H b) σ σ'->(∀b,G' b->(G b\/H b)\/σ.size<=b)->(∀b,H' b->(G b\/H b)\/σ.size<=b)->(∀b,G' b->¬H' b)->C' i σ' G'->C' j σ' H'->(∀k,dR (C' k)) →
 Sep C' σ' λb=>F b/\b<σ.size/\¬(G b\/H b)\/G' b\/H' b:=by
 obtain⟨ρ,h⟩:=h;refine⟨_,_,λb a=>a.1,λb a=>a.1,λb g A=>hij (g.2.symm.trans A.2),h i,h j,λσ' C' G' H' B e y w hd x z u=>⟨λb=>if G' b then i else if H' b then j else ρ b,λk=>?_⟩⟩
 by_cases hki:k=i
 ·subst hki;exact(u _).mono x λb _ a=>⟨.inr (.inl a),zB a⟩
 by_cases hkj:k=j
 ·subst hkj;exact(u _).mono z λb _ a=>⟨.inr (.inr a),by show(if G' b then i else if H' b then k else ρ b)=k;rw[zA λd=>hd b d a,zB a]⟩
 ·rw[B k hki hkj];refine hC k _ _ _ _ (h k) e.1 λb a r=>?_;have s:¬((F b/\ρ b=i)\/F b/\ρ b=j):=by
   rintro(d|d)
   ·exact hki (r.2.symm.trans d.2)
   ·exact hkj (r.2.symm.trans d.2)
  have m:¬G' b:=λd=>by
   rcases y b d with g|g
   ·exact s g
   ·omega
  have p:¬H' b:=λd=>by
   rcases w b d with g|g
   ·exact s g
   ·omega
  exact⟨⟨.inl ⟨r.1,a,s⟩,by show(if G' b then i else if H' b then j else ρ b)=k;rw[zA m,zA p];exact r.2⟩,e.2 b a s⟩
def iH (p:Nat)(cs:List Value):Hp->Rg->Prop:=λσ F=>F p/\bW σ p cs
theorem iH.loc (p:Nat)(cs:List Value):dR (iH p cs):=λσ g F G h d b=>by
 obtain⟨e,a⟩:=h.2;have:=b p h.2.lt h.1;exact⟨this.1,e,this.2.trans a⟩
def ka (r:Nat)(k:IntKind)(c:CK)(l:List (Int×c.T)):Hp->Rg->Prop:=λσ F=>F r/\dN σ r k c l
theorem ka.loc (r:Nat)(k:IntKind)(c:CK)(l:List (Int×c.T)):dR (ka r k c l):=λσ i F G h g e=>by
 have:=e r h.2.lt h.1;obtain⟨d,a,b,rest⟩:=h.2;exact⟨this.1,d,a,this.2.trans b,rest⟩
def yl:Hp->Rg->Prop:=λ_ _=>True
theorem yl.loc:dR yl:=λ_ _ _ _ _ _ _=>trivial
def wj (s:Sl)(sz:Nat)(xs:List Value):Hp->Rg->Prop:=λσ F=>Own F σ s sz xs
theorem wj.loc (s:Sl)(sz:Nat)(xs:List Value):dR (wj s sz xs):=λσ g F G h d a=>by
 refine⟨h.1,h.2.imp id ?_⟩;rintro⟨b,cs,hq,ha,⟨e,he⟩,r⟩;have:=a b (bW.lt ⟨e,he⟩) hq;exact⟨b,cs,this.1,ha,⟨e,this.2.trans he⟩,r⟩
def bR (s:Sl)(sz:Nat)(xs:List Value):Hp->Rg->Prop:=λh F=>xs.length=s.len*sz/\(s.len=0/\s.cap=0\/∃b cs,F b/\s.a=some ⟨b,0,none⟩/\bW h b cs/\s.len<=s.cap/\cs.length=s.cap*sz/\cs.take xs.length=xs)
theorem bR.loc (s:Sl)(sz:Nat)(xs:List Value):dR (bR s sz xs):=λσ g F G h d a=>by
 refine⟨h.1,h.2.imp id ?_⟩;rintro⟨b,cs,hq,ha,⟨e,he⟩,r⟩;have:=a b (bW.lt ⟨e,he⟩) hq;exact⟨b,cs,this.1,ha,⟨e,this.2.trans he⟩,r⟩
theorem _root_.aI{s n xs}:dR (bR s n xs):=bR.loc _ _ _
theorem bR.nil (h:Hp)(F:Rg)(sz:Nat)(a:Option Addr):bR ⟨a,0,0⟩ sz [] h F:=⟨by simp,.inl ⟨rfl,rfl⟩⟩
theorem bR.rd {h:Hp}{F:Rg}{s:Sl}{sz:Nat}{xs:List Value}(ho:bR s sz xs h F):Rd h s.a xs:=by
 rcases ho.2 with⟨hl,_⟩|⟨b,cs,_,ha,hb,_,_,ht⟩
 ·have:=ho.1;rw[hl]at this;simp at this;subst this;cases s.a<;>simp[Rd]
 ·rw[ha];intro j v hv;rw[add_lit,hb.cell,zG];rw[←ht,zY]at hv;split at hv
  ·exact hv
  ·cases hv
theorem bR.app {F:Rg}{h:Hp}{s x:Sl}{sz bytes e:Nat}{zs xs ys:List Value}{K:Sl->Hp->Prop}(ho:bR s sz xs h F)(hz:zs.length=sz)
 (hy:ys.length=x.len*sz) (hr:Rd h x.a ys) (h1:∀v∈ys,dM v=true) (hb:(s.len+x.len)*bytes<=2^46) (hc:s.len+x.len<=2^62)
 (hx:0<x.len) (hK:∀s' h',s'.len=s.len+x.len->Ext F h h'->bR s' sz (xs++ys) h' (Grow F h)->K s' h'):App s sz bytes e zs x h K:=by
 refine⟨xs,ys,ho.1,hy,ho.rd,hr,h1,hb,hc,λg=>?_,λp c m=>?_⟩
 ·rcases ho.2 with⟨hl,hcap⟩|⟨b,cs,hQ,ha,hk,hle,hcl,ht⟩
  ·omega
  ·rw[ha];simp only;rw[add_lit];have r:(s.len+x.len)*sz<=s.cap*sz:=lS _ g;rw[zl]at r;have d:=ho.1;refine Ug hk O λh' j i=>hK _ h' rfl (Ext.eR j hQ) ⟨?_,.inr ⟨b,_,.inl hQ,rfl,i,g,?_,?_⟩⟩
   ·simp[d,hy,zl]
   ·simp;omega
   ·rw[zJ,d];rw[zG,zr,←d];rw[ht,pG aA,mc aA]
 ·refine hK _ _ rfl (Ext.push _ _ _) ⟨by simp[ho.1,hy,zl],.inr ⟨h.size,xs++ys++(List.replicate (c-(s.len+x.len)) zs).flatten,.inr (zC _),rfl,⟨e,by simp⟩,m,?_,?_⟩⟩
  ·simp only[zJ,wa,uV,vR,ho.1,hy,hz,←zl]
   congr 1;omega
  ·rw[pG aA,mc aA]
theorem bR.st {F:Rg}{h:Hp}{s:Sl}{sz:Nat}{xs:List Value}(ho:bR s sz xs h F){j:Nat}(hj:j<xs.length){v:Value}{K:aP}{a:Addr}(ha:∀b,s.a=some ⟨b,0,none⟩->a=⟨b,j,none⟩)
 (hK:∀h',Ext F h h'->bR s sz (xs.set j v) h' F->K h'):dG a v h K:=by
 rcases ho.2 with⟨hl,_⟩|⟨b,cs,hq,hsa,hb,hle,hcl,ht⟩
 ·have:=ho.1;rw[hl]at this;simp at this;subst this;simp at hj
 ·rw[ha b hsa];have d:j<cs.length:=by
   have:(cs.take xs.length).length=xs.length:=by rw[ht]
   rw[zO]at this;omega
  refine⟨by rw[hb.cell,cL d];rfl,hb.pc,hK _ (Ext.kr (F:=F) hq) ⟨by simp[ho.1],.inr ⟨b,_,hq,hsa,hb.set v,hle,by simp[hcl],?_⟩⟩⟩;rw[nM,List.take_set,ht]
def cP (s:Sl)(sz:Nat)(xs:List Value):Hp->Rg->Prop:=λσ F=>xs.length=s.len*sz/\(xs=[]\/∃b o cs,F b/\s.a=some ⟨b,o,none⟩/\nu σ b cs/\∀j,j<xs.length->cs[o+j]?=xs[j]?)
theorem cP.loc (s:Sl)(sz:Nat)(xs:List Value):dR (cP s sz xs):=λσ g F G h d a=>by
 refine⟨h.1,h.2.imp id ?_⟩;rintro⟨b,o,cs,hq,ha,⟨e,z,he⟩,r⟩;have:=a b (nu.lt ⟨e,z,he⟩) hq;exact⟨b,o,cs,this.1,ha,⟨e,z,this.2.trans he⟩,r⟩
theorem _root_.aH{s n xs}:dR (cP s n xs):=cP.loc _ _ _
theorem bR.fP {Q:Rg}{h:Hp}{s:Sl}{sz:Nat}{xs:List Value}(ho:bR s sz xs h Q):cP s sz xs h Q:=by
 refine⟨ho.1,?_⟩;rcases ho.2 with⟨hl,_⟩|⟨b,cs,hq,ha,hb,_,_,ht⟩
 ·left;have:=ho.1;rw[hl]at this;simpa using this
 ·refine .inr ⟨b,0,cs,hq,ha,hb.q,λj a=>?_⟩;rw[←ht,zY,zG,zB a]
theorem cP.cell {s:Sl}{sz:Nat}{xs:List Value}(h:cP s sz xs σ F){j:Nat}{v:Value}(hv:xs[j]?=some v):∃b o,s.a=some ⟨b,o,none⟩/\Vc.cell σ ⟨b,o+j,none⟩=some v:=by
 have d:=(cS.1 hv).1;rcases h.2 with h0|⟨b,o,cs,_,ha,hb,hc⟩
 ·subst h0;simp at d
 ·exact⟨b,o,ha,by rw[hb.cell,hc j d];exact hv⟩
theorem cP.qc {s:Sl}{k:IntKind}{xs:List Int}(h:cP s 1 (xs.map (Value.int k)) σ F){i:Nat}{x:Int}(hx:xs[i]?=some x){K:Int->Prop}(hK:K x):Ix s.a s.len (i:Int) 1 λa=>eW k a σ K:=by
 have m:=(cS.1 hx).1;obtain⟨b,o,e,d⟩:=h.cell (j:=i) (v:=.int k x) (by simp[hx]);have g:=h.1;simp at g;rw[e];refine ix O O ?_;rw[add_lit];exact nV (by simpa using d) hK
theorem cP.rd {s:Sl}{sz:Nat}{xs:List Value}(h:cP s sz xs σ F):Rd σ s.a xs:=by
 cases ha:s.a with
 | none=>
  rcases h.2 with h0|⟨b,o,cs,_,d,_⟩
  ·exact h0
  ·rw[ha]at d;cases d
 | some a=>
  intro j v hv;obtain⟨b,o,d,e⟩:=h.cell hv;rw[ha]at d;cases d;rw[add_lit];exact e
end Go.Vc
namespace Go.Vc
open Go Go.ChangeShapes Go.WideShapes Go.Deep Go.RowKit
def SI (σ:Hp):Bool->Hp->Prop:=λb σ'=>b=true/\bO σ σ'
theorem θ {P:Program}{f:Nat}{args:Array Value}{w:World}(h:We P f args [.one .b] w.heap (SI w.heap)):Calls P f args w λe w'=>e=.returned (.bool true)/\Below w.heap.size w w':=by
 refine(h w rfl).mono ?_;rintro e w' ⟨a,vs,rfl,d⟩
 match vs,d with
 | [v],d=>
  obtain⟨x,rfl,j,i⟩:=d;have g:x=true:=j;subst g;exact⟨rfl,⟨a.1,a.2.1,a.2.2.1,a.2.2.2,λk m=>i.2 k m id⟩⟩
def gK (h:Hp)(l:Sl)(xs:List (Int×Int×Int)):Prop:=l.len=xs.length/\∀i x y z,xs[i]?=some (x,y,z)->∃b o,l.a=some ⟨b,o,none⟩/\b<h.size ∧
 cell h ⟨b,o+i*3,none⟩=some (.int .i64 x)/\cell h ⟨b,o+i*3+1,none⟩=some (.int .i64 y)/\cell h ⟨b,o+i*3+2,none⟩=some (.int .i64 z)
theorem Ma {h:Hp}{a:Addr}{v:Value}(hc:cell h a=some v):a.block<h.size/\a.spot=none:=by
 unfold cell at hc;split at hc
 ·rename_i heq;refine⟨(mT.1 heq).1,?_⟩;cases hs:a.spot with
  | none=>rfl
  | some s=>rw[hs]at hc;simp at hc
 ·cases hc
end Go.Vc
namespace Go.Vc
open Go
theorem dJ {k:IntKind}{b o i:Nat}{h:Hp}{x:Int}{K:Int->Prop}(hc:cell h ⟨b,o+i,none⟩=some (.int k x))(hK:K x):eW k (Addr.add ⟨b,o,none⟩ i) h K:=by
 rw[add_lit];exact nV hc hK
theorem bZ {e:Int}{m:Nat}{K:Int->Prop}(he:e=(m:Int))(hm:m<=4611686018427387904)(hK:K (m:Int)):Ar .i64 e K:=by
 rw[he];exact ar O O hK
theorem D5 {k:Nat}(h:k<=62):min ((k:Int).toNat) IntKind.i64.bits=k:=by
 have:IntKind.i64.bits=64:=rfl;rw[this];omega
theorem yx {k:IntKind}{e:Int}{K:Int->Prop}(hK:K (k.wrap e)):Ar k e K:=hK
variable {σ:Hp}{b o i j:Nat}{cs:List Value}
theorem bW.rI (hb:bW σ b cs){k:IntKind}{x:Int}{K:Int->Prop}(hc:cs[o+i]?=some (.int k x))(hK:K x):eW k (Addr.add ⟨b,o,none⟩ i) σ K:=by
 rw[add_lit];exact nV (hb.cell.trans hc) hK
theorem bW.rB (hb:bW σ b cs){x:Bool}{K:Bool->Prop}(hc:cs[o+i]?=some (.bool x))(hK:K x):j8 (Addr.add ⟨b,o,none⟩ i) σ K:=by
 rw[add_lit];exact lu (hb.cell.trans hc) hK
theorem bW.rP (hb:bW σ b cs){x:Option Addr}{K:Option Addr->Prop}(hc:cs[o+i]?=some (.pointer x))(hK:K x):fX (Addr.add ⟨b,o,none⟩ i) σ K:=by
 rw[add_lit];exact tD (hb.cell.trans hc) hK
theorem bW.rM (hb:bW σ b cs){x:Option Nat}{K:Option Nat->Prop}(hc:cs[o+i]?=some (.map x))(hK:K x):m0 (Addr.add ⟨b,o,none⟩ i) σ K:=by
 rw[add_lit];exact Mb (hb.cell.trans hc) hK
theorem bW.rS (hb:bW σ b cs){a:Option Addr}{n c:Nat}{K:Sl->Prop}(hc:cs[o+i]?=some (.slice a n c))(hK:K ⟨a,n,c⟩):jB (Addr.add ⟨b,o,none⟩ i) σ K:=by
 rw[add_lit];exact ox (hb.cell.trans hc) hK
theorem bW.gD (hb:bW σ b cs){k:IntKind}{x:Int}{K:Int->Prop}(hc:cs[o+i+j]?=some (.int k x))(hK:K x):eW k (Addr.add (Addr.add ⟨b,o,none⟩ i) j) σ K:=by
 rw[add_lit,add_lit];exact nV (hb.cell.trans hc) hK
theorem bW.we (hb:bW σ b cs){k:IntKind}{x:Int}{K:Int->Prop}(hc:cs[o]?=some (.int k x))(hK:K x):eW k ⟨b,o,none⟩ σ K:=nV (hb.cell.trans hc) hK
theorem bW.vo (hb:bW σ b cs){x:Option Addr}{K:Option Addr->Prop}(hc:cs[o]?=some (.pointer x))(hK:K x):fX ⟨b,o,none⟩ σ K:=tD (hb.cell.trans hc) hK
theorem bW.Am (hb:bW σ b cs){a:Option Addr}{n c:Nat}{K:Sl->Prop}(hc:cs[o]?=some (.slice a n c))(hK:K ⟨a,n,c⟩):jB ⟨b,o,none⟩ σ K:=ox (hb.cell.trans hc) hK
theorem bW.s1 (hb:bW σ b cs){v:Value}(ho:o+i<cs.length){K:aP}(hK:∀h',QJ σ h' b->bW h' b (cs.set (o+i) v)->K h'):dG (Addr.add ⟨b,o,none⟩ i) v σ K:=by
 rw[add_lit];refine⟨?_,hb.pc,hK _ ⟨Vt _ _ _,λc a=>V2 a⟩ (hb.set v)⟩;rw[hb.cell,cL ho];rfl
theorem bW.s0 (hb:bW σ b cs){v:Value}(ho:o<cs.length){K:aP}(hK:∀h',QJ σ h' b->bW h' b (cs.set o v)->K h'):dG ⟨b,o,none⟩ v σ K:=by
 refine⟨?_,hb.pc,hK _ ⟨Vt _ _ _,λc a=>V2 a⟩ (hb.set v)⟩;rw[hb.cell,cL ho];rfl
theorem nw {e:Nat}{K:Addr->Hp->Prop}(hK:∀h',h'.size=σ.size+1->bO σ h'->bW h' σ.size cs->K ⟨σ.size,0,none⟩ h'):Nw (.cells cs.toArray e (0,0)) σ K:=
 hK _ aA (Ext.push _ _ _) (bW.push _ _ _)
theorem ta {K:Addr->Hp->Prop}(hK:∀h',h'.size=σ.size+1->bO σ h'->(∀(k:IntKind) (c:CK),dN h' σ.size k c [])->K ⟨σ.size,0,none⟩ h'):Nw (.map #[] 0) σ K:=
 hK _ aA (Ext.push _ _ _) λk c=>dN.push _ _ _
theorem mk {n bytes e:Nat}{zs:List Value}{K:Sl->Hp->Prop}(h1:bytes*n<=1073741824)(h2:n<=1073741824)
 (hK:∀h',h'.size=σ.size+1->bO σ h'->bW h' σ.size (List.replicate n zs).flatten->K ⟨some ⟨σ.size,0,none⟩,n,n⟩ h'):Mk (n:Int) (n:Int) bytes e zs σ K:=by
 refine⟨O,rp _,?_,O,?_⟩
 ·have:((bytes:Int)*(n:Int))=((bytes*n:Nat):Int):=by simp
  rw[this];omega
 ·simp only[dC];exact nw hK
theorem ji {s:Sl}{sz lo hi mx:Nat}{K:Sl->Prop}(h1:lo<=hi)(h2:hi<=mx)(h3:mx<=s.cap)(hK:K ⟨if mx=lo then s.a else s.a.map (·.add (lo*sz)),hi-lo,mx-lo⟩):eX s sz (lo:Int) (hi:Int) (mx:Int) K:=
 ⟨O,O,O,O,by simpa using hK⟩
theorem ke (a b:Nat):(((a:Nat):Int)==((b:Nat):Int))=(a==b):=by rw[mX];simp;omega
theorem uW (a b:Nat):(((a:Nat):Int) != ((b:Nat):Int))=(a != b):=by rw[bne,bne,ke]
theorem vu (a:Nat):(((a:Nat):Int)==0)=(a==0):=ke a 0
theorem DF (a:Nat):(((a:Nat):Int) != 0)=(a != 0):=uW a 0
def ints (l:List Nat):List Value:=l.map λ(x:Nat)=>Value.int .i64 (x:Int)
theorem QO (l:List Nat):(ints l).length=l.length:=by simp[ints]
theorem J0 {l:List Nat}{i x:Nat}(h:l[i]?=some x):(ints l)[i]?=some (.int .i64 (x:Int)):=by simp[ints,h]
theorem Vl (l m:List Nat):ints (l++m)=ints l++ints m:=by simp[ints]
theorem cP.pt {s:Sl}{F:Rg}{xs:List Nat}(h:cP s 1 (ints xs) σ F){i x:Nat}(hx:xs[i]?=some x){K:Int->Prop}(hK:K (x:Int)):Ix s.a s.len (i:Int) 1 λa=>eW .i64 a σ K:=by
 have j:=(cS.1 hx).1;obtain⟨b,o,e,d⟩:=h.cell (J0 hx);have g:=h.1;rw[QO]at g;rw[e];refine ix O O ?_;rw[add_lit];exact nV (by simpa using d) hK
theorem cP.jT {s:Sl}{F:Rg}{xs:List Nat}(h:cP s 1 (ints xs) σ F):s.len=xs.length:=by
 have:=h.1;rw[QO]at this;omega
theorem cP.nil (F:Rg)(a:Option Addr)(c sz:Nat):cP ⟨a,0,c⟩ sz [] σ F:=⟨by simp,.inl rfl⟩
theorem bW.fP {s:Sl}{sz:Nat}{xs:List Value}(hb:bW σ b cs)(ha:s.a=some ⟨b,o,none⟩)(hl:xs.length=s.len*sz)(hc:∀j,j<xs.length->cs[o+j]?=xs[j]?):cP s sz xs σ (· = b):=
 ⟨hl,.inr ⟨b,o,cs,rfl,ha,hb.q,hc⟩⟩
theorem NU {a xa:Option Addr}{xc sz bytes e:Nat}{zs:List Value}{K:Sl->Hp->Prop}(hK:K ⟨a,0,0⟩ σ):App ⟨a,0,0⟩ sz bytes e zs ⟨xa,0,xc⟩ σ K:=by
 refine⟨[],[],by simp,by simp,by cases a<;>simp[Rd],by cases xa<;>simp[Rd],by simp,by simp,by simp,λ_=>?_,λh=>absurd (zC 0) h⟩
 cases a
 ·exact hK
 ·exact hK
theorem bR.push {F:Rg}{s:Sl}{sz bytes e t:Nat}{zs xs vs:List Value}{K:Sl->Hp->Prop}(ho:bR s sz xs σ F)(hF:∀b,σ.size<=b->F b)(hz:zs.length=sz)(hv:vs.length=sz)(h1:∀v∈vs,dM v=true)
 (hb:bytes<=1000) (hl:s.len<=1000000) (hK:∀s' h',s'.len=s.len+1->Ext F σ h'->bR s' sz (xs++vs) h' F->K s' h') :
 Nw (.cells vs.toArray t (0,0)) σ λn v=>App s sz bytes e zs ⟨some n,1,1⟩ v K:=by
 refine nw λv r m a=>?_;have i:=(bR.loc s sz xs).bK ho m;refine i.app (ys:=vs) hz (by simp[hv]) ?_ h1 ?_ ?_ n4 λs' h' d p g=>hK s' h' d (m.to.trans p) ?_
 ·intro j u hu;rw[add_lit,zG,a.cell];exact hu
 ·simp only;have:(s.len+1)*bytes<=1000001*1000:=kU O hb;omega
 ·simp only;omega
 ·exact aI.mono g λb _ w=>by
   rcases w with h|h
   ·exact h
   ·exact hF b O
theorem bR.jT {F:Rg}{s:Sl}{xs:List Nat}(h:bR s 1 (ints xs) σ F):s.len=xs.length:=by
 have:=h.1;rw[QO]at this;omega
theorem yC {F:Rg}{s:Sl}{sz bytes e:Nat}{zs vs:List Value}{R:Sl->Hp->Prop}(h:cP s sz vs σ F)(hpos:0<sz)(hz:zs.length=sz)(h1:∀v∈vs,dM v=true)(hb:bytes<=1000)(hl:s.len<=1000000)
 (hR:∀s' σ',s'.len=s.len->bO σ σ'->bR s' sz vs σ' (λb=>σ.size<=b)->R s' σ') :
 If s.a.isNone (R ⟨none,0,0⟩ σ) (Nw (.cells #[] e (0,0)) σ λn v=>App ⟨some n,0,0⟩ sz bytes e zs s v λt v1=>R t v1):=by
 have d:=h.1;refine cN (λm=>?_) λm=>?_
 ·have D:vs=[]:=by
   rcases h.2 with g|⟨b,o,cs,_,ha,_⟩
   ·exact g
   ·rw[ha]at m;cases m
  subst D;have g:s.len=0:=by
   have y:s.len*sz=0:=by simpa using d.symm
   rcases vz.1 y with h|h
   ·exact h
   ·omega
  exact hR _ _ (by simp[g]) (Ext.refl _ _) (bR.nil _ _ _ _)
 ·refine nw (cs:=[]) λv B p u=>?_;have w:=(cP.loc s sz vs).bK h p;rcases xi s.len with g|g
  ·obtain⟨a,n,c⟩:=s;simp only at g;subst g;have:vs=[]:=by simpa using d
   subst this;exact NU (hR _ _ rfl p (bR.nil _ _ _ _))
  ·refine(bR.nil v (λb=>σ.size<=b) sz (some ⟨σ.size,0,none⟩)).app (ys:=vs) hz d w.rd h1 ?_ ?_ g λs' z r A j=>hR s' z (by simpa using r) ?_ ?_
   ·simp only[zG];have:s.len*bytes<=1000000*1000:=kU hl hb;omega
   ·simp only;omega
   ·exact Ext.fresh p A λi C=>C
   ·rw[qn]at j;exact aI.mono j λb _ x=>by
     rcases x with h|h
     ·exact h
     ·omega
def Cut (F:Rg)(σ:Hp):Rg:=λb=>F b/\b<σ.size
theorem dR.cut {P:Hp->Rg->Prop}(hl:dR P){F:Rg}(h:P σ F):P σ (Cut F σ):=hl.mono h λb d a=>⟨a,d⟩
theorem Ext.cut {F:Rg}{σ':Hp}(e:Ext (Cut F σ) σ σ'):Ext F σ σ':=⟨e.1,λb g a=>e.2 b g λd=>a d.1⟩
theorem Ext.sub {F G:Rg}{a b:Hp}(e:Ext F a b)(h:∀i,F i->G i):Ext G a b:=e.mono λi _ d=>h i d
theorem QJ.ext {h h':Hp}{r:Nat}(ho:QJ h h' r):Ext (· = r) h h':=Ext.eR ho rfl
theorem Ext.iI {F:Rg}{a b c:Hp}(e:Ext F a b)(k:Ext (Grow F a) b c):Ext F a c:=
 ⟨zI e.1 k.1,λi g d=>(k.2 i (vL g e.1) λj=>by rcases j with h|h;exact d h;omega).trans (e.2 i g d)⟩
theorem Ext.fE {F G:Rg}{a b c:Hp}(e:Ext F a b)(k:Ext G b c)(h:∀i,G i->F i\/a.size<=i):Ext F a c:=e.iI (k.sub h)
theorem Gf {P:Program}{f:Nat}{first caps:Array Value}{args:List Value}{all:Array Value}{rs:List SK}{R:eJ (iK rs)}(hok:HR P f=true)(he:first++args.toArray++caps=all)
 (hc:We P f all rs σ R):V1 P ⟨f,first,caps⟩ args rs σ R:=⟨hok,by unfold JT;simp only;rw[he];exact hc⟩
theorem QV {h h':Hp}{F:Nat->Prop}(e:Ext F h h'){b o:Nat}(hb:b<h.size)(hF:¬F b):cell h' ⟨b,o,none⟩=cell h ⟨b,o,none⟩:=by
 unfold cell;rw[e.2 b hb hF]
theorem DE {h h':Hp}{l:Sl}{xs:List (Int×Int×Int)}{F:Nat->Prop}(ha:gK h l xs)(e:Ext F h h')(hF:∀b,F b->∀o,l.a≠some ⟨b,o,none⟩):gK h' l xs:=by
 refine⟨ha.1,λi x y z u=>?_⟩;obtain⟨b,o,j,d,r,p,s⟩:=ha.2 i x y z u;have g:¬F b:=λm=>hF b m o j;exact⟨b,o,j,vL d e.1,by rw[QV e d g];exact r,by rw[QV e d g];exact p,by rw[QV e d g];exact s⟩
theorem YR {h h':Hp}{l:Sl}{xs:List (Int×Int×Int)}(ha:gK h l xs)(e:bO h h'):gK h' l xs:=DE ha e λ_ h=>h.elim
theorem Hj {h:Hp}{l:Sl}{xs:List (Int×Int×Int)}(ha:gK h l xs){i:Nat}{x y z:Int}(hx:xs[i]?=some (x,y,z)){K:Int->Int->Int->Prop}(hK:K x y z) :
 Ix l.a l.len (i:Int) 3 λa=>eW .i64 (a.add 0) h λu=>eW .i64 (a.add 1) h λv=>eW .i64 (a.add 2) h λw=>K u v w:=by
 obtain⟨b,o,d,m,j,e,g⟩:=ha.2 i x y z hx;have p:=(cS.1 hx).1;rw[d];refine ix O (by rw[ha.1];omega) ?_;rw[add_lit];refine dJ (by simpa using j) (dJ (by simpa using e) (dJ (by simpa using g) hK))
end Go.Vc
namespace Go.Proofs
open Go.Vc
abbrev _root_.R1:=@We Tryz.prog
abbrev _root_.R2:=Option Addr
def WZ.c (a b c d e f:Int)(g:Sl)(h:Hp)(i:aO):=R1 12 #[.agg #[.I a,.I b,.I c,.I d,.I e,.I f],.slice g.a g.len g.cap] [.one .b] h i
def Xm.c (a:Hp)(b:aO):=R1 13 #[] [.one .b] a b
def Qo.c (a:Sl)(b c:Int)(d:Hp)(e:Int->Int->Hp->Prop):=R1 14 #[.slice a.a a.len a.cap,.I b,.I c] [.I,.I] d e
def WV.c (a:Int)(b:Hp)(c:Sl->Int->Hp->Prop):=R1 16 #[.I a] [.one .s,.I] b c
def WS.c (a b c:Int)(d:Hp)(e:aN):=R1 18 #[.agg #[.I a,.I b,.I c]] [.I] d e
def QP.c (a:R2)(b:Hp)(c:Option Addr->Int->Hp->Prop):=R1 19 #[.pointer a] [.one .p,.I] b c
def XF.c (a:R2)(b c d:Int)(e:Hp)(f:Int->Int->Hp->Prop):=R1 20 #[.pointer a,.I b,.I c,.I d] [.I,.I] e f
def Qj.c (a:R2)(b:Hp)(c:Sl->Sl->Int->Hp->Prop):=R1 22 #[.pointer a] [.one .s,.one .s,.I] b c
def Ze.c (a:R2)(b c:Int)(d:Hp)(e:aN):=R1 23 #[.pointer a,.I b,.I c] [.I] d e
def XH.c (a:R2)(b:Hp)(c:Int->Int->Int->Int->Int->Int->Int->Int->Int->Int->Hp->Prop):=R1 24 #[.pointer a] [.agg [bN,bN,bN,bN,bN,bN,bN,bN,bN,bN]] b c
def Yz.c (a:R2)(b:Hp)(c:Sl->Hp->Prop):=R1 25 #[.pointer a] [.one .s] b c
def XI.c (a:Hp)(b:Option Addr->Hp->Prop):=R1 29 #[] [.one .p] a b
def Yb.c (a b c d e f:Int)(g:Sl)(h:Int)(i:Hp)(j:Option Addr->Hp->Prop):=R1 30 #[.agg #[.I a,.I b,.I c,.I d,.I e,.I f],.slice g.a g.len g.cap,.I h] [.one .p] i j
def Y5.c (a:R2)(b:Hp)(c:Sl->Hp->Prop):=R1 31 #[.pointer a] [.one .s] b c
def WM.c (a:R2)(b:Hp)(c:aN):=R1 32 #[.pointer a] [.I] b c
def Y3.c (a:R2)(b:Hp)(c:Sl->Hp->Prop):=R1 33 #[.pointer a] [.one .s] b c
def X7.c (a:Sl)(b:Int)(c:Hp)(d:aO):=R1 34 #[.slice a.a a.len a.cap,.I b] [.one .b] c d
def Xo.c (a:R2)(b c d e f g h:Int)(i:ByteArray)(j:Hp)(k:aN):=R1 35 #[.pointer a,.agg #[.I b,.I c,.I d,.I e,.I f,.I g,.I h,.string i]] [.I] j k
def Yf.c (a:R2)(b:Hp)(c:Int->Int->Int->Int->Int->Int->Int->Int->Int->Int->Int->Hp->Prop):=R1 36 #[.pointer a] [.agg [bN,bN,bN,bN,bN,bN,bN,bN,bN,bN,bN]] b c
def Xp.c (a b:Sl)(c:Int)(d:Hp)(e:aO):=R1 37 #[.slice a.a a.len a.cap,.slice b.a b.len b.cap,.I c] [.one .b] d e
def Zn.c (a:R2)(b:Int)(c:Hp)(d:Int->Int->Int->Int->Int->Hp->Prop):=R1 38 #[.pointer a,.I b] [.agg [bN,bN,bN,bN],.I] c d
def Yc.c (a b:Sl)(c:Hp)(d:aO):=R1 39 #[.slice a.a a.len a.cap,.slice b.a b.len b.cap] [.one .b] c d
def ZK.c (a:Sl)(b:Hp)(c:aO):=R1 40 #[.slice a.a a.len a.cap] [.one .b] b c
def Z5.c (a:Sl)(b c:Int)(d:Hp)(e:Int->Int->Hp->Prop):=R1 41 #[.slice a.a a.len a.cap,.I b,.I c] [.I,.I] d e
def Zh.c (a b c:Int)(d:Hp)(e:Int->Int->Hp->Prop):=R1 42 #[.agg #[.I a,.I b,.I c]] [.I,.I] d e
def Qw.c (a b c:Int)(d:Hp)(e:Int->Int->Hp->Prop):=R1 43 #[.agg #[.I a,.I b,.I c]] [.I,.I] d e
def Xl.c (a b:Int)(c:Hp)(d:Int->Int->Int->Hp->Prop):=R1 47 #[.I a,.I b] [.agg [bN,bN,bN]] c d
def X8.c (a b:Int)(c:Hp)(d:aN):=R1 48 #[.I a,.I b] [.I] c d
def Qx.c (a:R2)(b:Hp)(c:aO):=R1 50 #[.pointer a] [.one .b] b c
def Xw.c (a:R2)(b:Hp)(c:aO):=R1 51 #[.pointer a] [.one .b] b c
def Yp.c (a:R2)(b c d:Int)(e:Hp)(f:Int->Int->Hp->Prop):=R1 52 #[.pointer a,.I b,.I c,.I d] [.I,.I] e f
def XE.c (a:R2)(b:Int)(c:Hp)(d:aP):=R1 53 #[.pointer a,.I b] [] c d
def XU.c (a:R2)(b:Int)(c:R2)(d:Hp)(e:aP):=R1 54 #[.pointer a,.I b,.pointer c] [] d e
def Yr.c (a:R2)(b:Hp)(c:Int->Int->Int->Int->Int->Hp->Prop):=R1 55 #[.pointer a] [.agg [bN,bN,bN,bN,bN]] b c
def Zx.c (a:R2)(b:Int)(c:Hp)(d:Int->Int->Hp->Prop):=R1 56 #[.pointer a,.I b] [.I,.I] c d
def Qy.c (a:Sl)(b:Hp)(c:Sl->Hp->Prop):=R1 57 #[.slice a.a a.len a.cap] [.one .s] b c
def Zl.c (a:R2)(b c:Int)(d:Hp)(e:aN):=R1 58 #[.pointer a,.I b,.I c] [.I] d e
def Xa.c (a:Sl)(b:Fv)(c:Hp)(d:aN):=R1 59 #[.slice a.a a.len a.cap,.func (.func b.f) b.first b.captured] [.I] c d
def XL.c (a b c d:Int)(e:Hp)(f:aN):=R1 60 #[.agg #[.I a,.I b,.I c,.I d]] [.I] e f
def Wu.c (a b c d e f:Int)(g:Hp)(h:Option Addr->Hp->Prop):=R1 63 #[.agg #[.I a,.I b,.I c,.I d,.I e,.I f]] [.one .p] g h
def WQ.c (a b c d e f:Int)(g:Hp)(h:aO):=R1 64 #[.agg #[.I a,.I b,.I c,.I d,.I e,.I f]] [.one .b] g h
def WJ.c (a:R2)(b:Hp)(c:aO):=R1 65 #[.pointer a] [.one .b] b c
def VS.c (a:Fv)(b:Hp)(c:Sl->Hp->Prop):=R1 66 #[.func (.func a.f) a.first a.captured] [.one .s] b c
def ZU.c (a:Option Nat)(b:Hp)(c:Fv->Hp->Prop):=R1 67 #[.map a] [.one .fn] b c
def Wc.c (a:Sl)(b:Hp)(c:Sl->Hp->Prop):=R1 68 #[.slice a.a a.len a.cap] [.one .s] b c
def Yo.c (a:Sl)(b c d e f g h:Int)(i:ByteArray)(j:Hp)(k:aN):=R1 69 #[.slice a.a a.len a.cap,.agg #[.I b,.I c,.I d,.I e,.I f,.I g,.I h,.string i]] [.I] j k
def Zf.c (a:R2)(b:Sl)(c d e f g h i:Int)(j:ByteArray)(k:Hp)(l:Int->Int->Int->Hp->Prop):=R1 70 #[.pointer a,.slice b.a b.len b.cap,.agg #[.I c,.I d,.I e,.I f,.I g,.I h,.I i,.string j]] [.I,.I,.I] k l
def Xy.c (a:R2)(b:Hp)(c:aN):=R1 71 #[.pointer a] [.I] b c
def Xs.c (a:R2)(b:Hp)(c:aN):=R1 72 #[.pointer a] [.I] b c
def Xx.c (a:R2)(b:Hp)(c:aN):=R1 73 #[.pointer a] [.I] b c
def X4.c (a:R2)(b:Hp)(c:Int->Int->Int->Int->Int->Int->Hp->Prop):=R1 74 #[.pointer a] [.I,.I,.I,.I,.I,.I] b c
def X2.c (a:R2)(b:Int)(c:Hp)(d:aN):=R1 75 #[.pointer a,.I b] [.I] c d
def Ym.c (a:R2)(b:Int)(c:Hp)(d:Int->Int->Int->Hp->Prop):=R1 76 #[.pointer a,.I b] [.I,.I,.I] c d
def QF.c (a b c:Int)(d:Hp)(e:aO):=R1 77 #[.agg #[.I a,.I b,.I c]] [.one .b] d e
def Ql.c (a:Int)(b:Hp)(c:aN):=R1 78 #[.I a] [.I] b c
def Wl.c (a:Sl)(b:Fv)(c:Hp)(d:aN):=R1 79 #[.slice a.a a.len a.cap,.func (.func b.f) b.first b.captured] [.I] c d
def Z3.c (a b c:Int)(d e:Addr)(f:Hp)(g:aO):=R1 80 #[.agg #[.I a,.I b,.I c],.pointer (some d),.pointer (some e)] [.one .b] f g
def ZO.c (a b c:Int)(d:Hp)(e:aN):=R1 81 #[.agg #[.I a,.I b,.I c]] [.I] d e
def X0.c (a:R2)(b c d e f:Int)(g:Hp)(h:Int->Int->Hp->Prop):=R1 83 #[.pointer a,.I b,.agg #[.I c,.I d,.I e,.I f]] [.I,.I] g h
def YU.c (a:R2)(b:Hp)(c:Option Addr->Hp->Prop):=R1 84 #[.pointer a] [.one .p] b c
def Zb.c (a:R2)(b:Int)(c:Hp)(d:Int->Int->Hp->Prop):=R1 85 #[.pointer a,.I b] [.I,.I] c d
def WG.c (a:Sl)(b:Hp)(c:Sl->Hp->Prop):=R1 90 #[.slice a.a a.len a.cap] [.one .s] b c
def KC.c (a:Sl)(b c d e f:Int)(g:Hp)(h:Option Addr->Int->Hp->Prop):=R1 92 #[.slice a.a a.len a.cap,.agg #[.I b,.I c,.I d,.I e,.I f]] [.one .p,.I] g h
def Vz.c (a:Fv)(b:Hp)(c:Sl->Hp->Prop):=R1 93 #[.func (.func a.f) a.first a.captured] [.one .s] b c
def Zw.c (a:R2)(b:Int)(c:Hp)(d:aN):=R1 96 #[.pointer a,.I b] [.I] c d
def Zt.c (a:R2)(b c:Int)(d:Hp)(e:aN):=R1 97 #[.pointer a,.I b,.I c] [.I] d e
def Yi.c (a:R2)(b c d e f:Int)(g:Hp)(h:aN):=R1 98 #[.pointer a,.I b,.agg #[.I c,.I d,.I e,.I f]] [.I] g h
def Y7.c (a:R2)(b:Int)(c:Hp)(d:Bool->Int->Int->Int->Hp->Prop):=R1 99 #[.pointer a,.I b] [.one .b,.agg [bN,bN],.I] c d
def YD.c (a:R2)(b:Int)(c:Hp)(d:Int->Int->Hp->Prop):=R1 100 #[.pointer a,.I b] [.I,.I] c d
def ZD.c (a:R2)(b:Hp)(c:aN):=R1 101 #[.pointer a] [.I] b c
def ZE.c (a:R2)(b:Hp)(c:aP):=R1 102 #[.pointer a] [] b c
def Xu.c (a:R2)(b:Hp)(c:aN):=R1 103 #[.pointer a] [.I] b c
def Xr.c (a:R2)(b:Hp)(c:aO):=R1 104 #[.pointer a] [.one .b] b c
def Xf.c (a:R2)(b:Hp)(c:aO):=R1 105 #[.pointer a] [.one .b] b c
def WD.c (a:R2)(b:Hp)(c:aO):=R1 106 #[.pointer a] [.one .b] b c
def X9.c (a:R2)(b:Hp)(c:Sl->Hp->Prop):=R1 107 #[.pointer a] [.one .s] b c
def W4.c (a:R2)(b:Hp)(c:Sl->Hp->Prop):=R1 108 #[.pointer a] [.one .s] b c
def YG.c (a:R2)(b:Hp)(c:aN):=R1 109 #[.pointer a] [.I] b c
def Zp.c (a:R2)(b:Hp)(c:aN):=R1 110 #[.pointer a] [.I] b c
def Wk.c (a:Sl)(b:Fv)(c:Hp)(d:aN):=R1 111 #[.slice a.a a.len a.cap,.func (.func b.f) b.first b.captured] [.I] c d
def Zk.c (a:R2)(b:Addr)(c:Hp)(d:aO):=R1 112 #[.pointer a,.pointer (some b)] [.one .b] c d
def Zc.c (a:R2)(b:Int)(c:Hp)(d:aO):=R1 113 #[.pointer a,.I b] [.one .b] c d
def Zq.c (a:R2)(b:Int)(c:Hp)(d:aN):=R1 114 #[.pointer a,.I b] [.I] c d
def YE.c (a:R2)(b:Int)(c:Hp)(d:Int->Int->Hp->Prop):=R1 115 #[.pointer a,.I b] [.I,.I] c d
def XD.c (a:R2)(b c:Int)(d:Hp)(e:aN):=R1 116 #[.pointer a,.I b,.I c] [.I] d e
def Zs.c (a:R2)(b:Int)(c:Hp)(d:aN):=R1 117 #[.pointer a,.I b] [.I] c d
def QI.c (a b c d e:Int)(f:Hp)(g:aO):=R1 123 #[.agg #[.I a,.I b,.I c,.I d,.I e]] [.one .b] f g
def Ka.c (a:Int)(b:Hp)(c:Option Addr->Int->Hp->Prop):=R1 124 #[.I a] [.one .p,.I] b c
def Q6.c (a:Sl)(b:R2)(c:Int)(d:Hp)(e:Option Addr->Int->Hp->Prop):=R1 125 #[.slice a.a a.len a.cap,.pointer b,.I c] [.one .p,.I] d e
def Q8.c (a:Sl)(b:Int)(c:Hp)(d:Option Addr->Int->Hp->Prop):=R1 126 #[.slice a.a a.len a.cap,.I b] [.one .p,.I] c d
def ZY.c (a:Int)(b:Hp)(c:aN):=R1 129 #[.int .u64 a] [.I] b c
def YH.c (a:R2)(b c:Int)(d:Hp)(e:aN):=R1 130 #[.pointer a,.I b,.I c] [.I] d e
def Y1.c (a:R2)(b:Int)(c:Hp)(d:aO):=R1 131 #[.pointer a,.I b] [.one .b] c d
def YA.c (a:R2)(b c d e:Int)(f:Hp)(g:Value->Hp->Prop):=R1 132 #[.pointer a,.agg #[.I b,.I c,.I d,.I e]] [.one .raw] f g
def ZI.c (a:R2)(b:Int)(c:Value)(d:Hp)(e:Value->Int->Int->Hp->Prop):=R1 133 #[.pointer a,.I b,c] [.one .raw,.agg [bN,bN]] d e
def Xg.c (a:R2)(b:Int)(c:Hp)(d:Int->Int->Hp->Prop):=R1 134 #[.pointer a,.I b] [.I,.I] c d
def Yw.c (a:R2)(b:Hp)(c:aN):=R1 135 #[.pointer a] [.I] b c
def Zd.c (a:R2)(b:Hp)(c:aP):=R1 136 #[.pointer a] [] b c
def WB.c (a:R2)(b:Hp)(c:aO):=R1 137 #[.pointer a] [.one .b] b c
def ZL.c (a:R2)(b:Hp)(c:Int->Int->Hp->Prop):=R1 138 #[.pointer a] [.agg [bN,bN]] b c
def WL.c (a:R2)(b:Hp)(c:aO):=R1 139 #[.pointer a] [.one .b] b c
def XC.c (a:Sl)(b:Hp)(c:Sl->Hp->Prop):=R1 140 #[.slice a.a a.len a.cap] [.one .s] b c
def XV.c (a:R2)(b:Hp)(c:aN):=R1 141 #[.pointer a] [.I] b c
def XW.c (a:R2)(b:Hp)(c:aO):=R1 142 #[.pointer a] [.one .b] b c
def Ya.c (a:R2)(b:Int)(c:Hp)(d:aN):=R1 143 #[.pointer a,.I b] [.I] c d
def XQ.c (a:R2)(b:Hp)(c:aO):=R1 144 #[.pointer a] [.one .b] b c
def XT.c (a:R2)(b:Int)(c:Hp)(d:Option Addr->Hp->Prop):=R1 145 #[.pointer a,.I b] [.one .p] c d
def Yg.c (a:R2)(b:Int)(c:Hp)(d:Int->Int->Hp->Prop):=R1 146 #[.pointer a,.I b] [.I,.I] c d
def Wj.c (a:Sl)(b c:Bool)(d:Hp)(e:aO):=R1 147 #[.slice a.a a.len a.cap,.agg #[.bool b,.bool c]] [.one .b] d e
def WY.c (a:R2)(b:Hp)(c:aO):=R1 149 #[.pointer a] [.one .b] b c
def Qm.c (a:Hp)(b:Option Addr->Hp->Prop):=R1 150 #[] [.one .p] a b
def YX.c (a:R2)(b c d:Int)(e:Hp)(f:aN):=R1 152 #[.pointer a,.I b,.I c,.I d] [.I] e f
def Q7.c (a:Int)(b:Hp)(c:Option Addr->Int->Hp->Prop):=R1 154 #[.I a] [.one .p,.I] b c
def KE.c (a:Int)(b:Hp)(c:Option Addr->Int->Hp->Prop):=R1 155 #[.I a] [.one .p,.I] b c
def Qi.c (a b c:Int)(d:Hp)(e:Option Addr->Int->Hp->Prop):=R1 156 #[.agg #[.I a,.I b,.I c]] [.one .p,.I] d e
def Z4.c (a b:Int)(c:Hp)(d:Option Addr->Int->Hp->Prop):=R1 157 #[.I a,.I b] [.one .p,.I] c d
def ZM.c (a:Int)(b:Hp)(c:aN):=R1 168 #[.int .u64 a] [.I] b c
def Zv.c (a:R2)(b c:Int)(d:Hp)(e:aP):=R1 169 #[.pointer a,.I b,.I c] [] d e
def ZJ.c (a:R2)(b:Int)(c:Hp)(d:aN):=R1 170 #[.pointer a,.I b] [.I] c d
def Yk.c (a:R2)(b:Int)(c:Hp)(d:Int->Int->Hp->Prop):=R1 171 #[.pointer a,.I b] [.I,.I] c d
def Y8.c (a:R2)(b c d:Int)(e:Hp)(f:Value->Int->Int->Hp->Prop):=R1 172 #[.pointer a,.I b,.I c,.I d] [.one .raw,.agg [bN,bN]] e f
def Yt.c (a:R2)(b:Int)(c:Hp)(d:Int->Int->Hp->Prop):=R1 173 #[.pointer a,.I b] [.I,.I] c d
def WA.c (a:R2)(b:Int)(c:Hp)(d:Sl->Int->Hp->Prop):=R1 174 #[.pointer a,.I b] [.one .s,.I] c d
def YL.c (a:R2)(b c:Int)(d:Sl)(e:Hp)(f:aP):=R1 175 #[.pointer a,.I b,.I c,.slice d.a d.len d.cap] [] e f
def WE.c (a:R2)(b c:Int)(d:Hp)(e:Sl->Int->Hp->Prop):=R1 176 #[.pointer a,.I b,.I c] [.one .s,.I] d e
def Yn.c (a:R2)(b:Int)(c:Hp)(d:aN):=R1 177 #[.pointer a,.I b] [.I] c d
def Yx.c (a:R2)(b:Int)(c:Sl)(d:Hp)(e:aN):=R1 178 #[.pointer a,.I b,.slice c.a c.len c.cap] [.I] d e
def WT.c (a:R2)(b c:Int)(d:Hp)(e:Int->Int->Hp->Prop):=R1 179 #[.pointer a,.I b,.I c] [.I,.I] d e
def ZF.c (a:R2)(b c:Int)(d:Hp)(e:Value->Int->Int->Hp->Prop):=R1 180 #[.pointer a,.I b,.I c] [.one .raw,.agg [bN,bN]] d e
def YW.c (a:R2)(b c:Int)(d:Hp)(e:Sl->Int->Hp->Prop):=R1 181 #[.pointer a,.I b,.I c] [.one .s,.I] d e
def Yh.c (a:R2)(b:Hp)(c:aO):=R1 182 #[.pointer a] [.one .b] b c
def W7.c (a:R2)(b:Hp)(c:Sl->Hp->Prop):=R1 183 #[.pointer a] [.one .s] b c
def W6.c (a:R2)(b:Int)(c:Hp)(d:Value->Hp->Prop):=R1 184 #[.pointer a,.I b] [.one .raw] c d
def Wq.c (a:Sl)(b:Hp)(c:Sl->Hp->Prop):=R1 185 #[.slice a.a a.len a.cap] [.one .s] b c
def ZC.c (a:R2)(b c:Int)(d:Sl)(e:Hp)(f:aP):=R1 186 #[.pointer a,.I b,.agg #[.I c,.slice d.a d.len d.cap]] [] e f
def WU.c (a:R2)(b:Int)(c:Hp)(d:aN):=R1 187 #[.pointer a,.I b] [.I] c d
def XZ.c (a:R2)(b:Hp)(c:Sl->Hp->Prop):=R1 188 #[.pointer a] [.one .s] b c
def Xe.c (a:R2)(b:Sl)(c:Hp)(d:aP):=R1 189 #[.pointer a,.slice b.a b.len b.cap] [] c d
def W0.c (a:R2)(b:Hp)(c:Sl->Hp->Prop):=R1 190 #[.pointer a] [.one .s] b c
def YB.c (a:R2)(b:Int)(c:Hp)(d:Sl->Int->Hp->Prop):=R1 191 #[.pointer a,.I b] [.one .s,.I] c d
def W9.c (a:R2)(b c:Int)(d:Hp)(e:aN):=R1 192 #[.pointer a,.I b,.I c] [.I] d e
def XK.c (a:R2)(b c:Int)(d:Hp)(e:aN):=R1 193 #[.pointer a,.I b,.I c] [.I] d e
def YC.c (a:R2)(b:Hp)(c:Sl->Hp->Prop):=R1 194 #[.pointer a] [.one .s] b c
def Xh.c (a:R2)(b:Int)(c:Hp)(d:aN):=R1 195 #[.pointer a,.I b] [.I] c d
def XA.c (a:R2)(b c:Int)(d:Hp)(e:aN):=R1 196 #[.pointer a,.I b,.I c] [.I] d e
def YJ.c (a:R2)(b c:Int)(d:Hp)(e:aN):=R1 197 #[.pointer a,.I b,.I c] [.I] d e
def Xj.c (a:R2)(b:Hp)(c:Sl->Hp->Prop):=R1 198 #[.pointer a] [.one .s] b c
def WC.c (a:R2)(b:Int)(c:Sl)(d:Hp)(e:aN):=R1 199 #[.pointer a,.I b,.slice c.a c.len c.cap] [.I] d e
def YI.c (a:R2)(b:Hp)(c:aO):=R1 200 #[.pointer a] [.one .b] b c
def XJ.c (a:Sl)(b:Int)(c:Hp)(d:Sl->Hp->Prop):=R1 201 #[.slice a.a a.len a.cap,.I b] [.one .s] c d
def YK.c (a:R2)(b:Int)(c:Hp)(d:aN):=R1 202 #[.pointer a,.I b] [.I] c d
def Wn.c (a:Sl)(b c:Bool)(d:Hp)(e:aN):=R1 203 #[.slice a.a a.len a.cap,.agg #[.bool b,.bool c]] [.I] d e
def Zu.c (a:R2)(b c:Int)(d:Hp)(e:aP):=R1 204 #[.pointer a,.I b,.I c] [] d e
def Xv.c (a:R2)(b:Int)(c:Hp)(d:Option Addr->Int->Hp->Prop):=R1 211 #[.pointer a,.I b] [.one .p,.I] c d
def WX.c (a:R2)(b:Int)(c:Hp)(d:aN):=R1 212 #[.pointer a,.I b] [.I] c d
def Wz.c (a:R2)(b:Hp)(c:Sl->Int->Hp->Prop):=R1 213 #[.pointer a] [.one .s,.I] b c
def Xd.c (a:R2)(b:Int)(c:Hp)(d:Sl->Int->Hp->Prop):=R1 214 #[.pointer a,.I b] [.one .s,.I] c d
def YV.c (a:R2)(b c d:Int)(e:Hp)(f:Int->Int->Hp->Prop):=R1 215 #[.pointer a,.I b,.I c,.I d] [.I,.I] e f
def Zg.c (a:R2)(b:Int)(c:Hp)(d:aN):=R1 216 #[.pointer a,.I b] [.I] c d
def W3.c (a:Sl)(b:Hp)(c:aP):=R1 217 #[.slice a.a a.len a.cap] [] b c
def W1.c (a:R2)(b:Sl)(c:Hp)(d:aN):=R1 218 #[.pointer a,.slice b.a b.len b.cap] [.I] c d
def Xc.c (a:R2)(b:Int)(c:Hp)(d:Sl->Hp->Prop):=R1 219 #[.pointer a,.I b] [.one .s] c d
def Xi.c (a:R2)(b:Fv)(c:Hp)(d:Sl->Hp->Prop):=R1 220 #[.pointer a,.func (.func b.f) b.first b.captured] [.one .s] c d
def Xz.c (a:R2)(b:Int)(c:Hp)(d:Sl->Hp->Prop):=R1 221 #[.pointer a,.I b] [.one .s] c d
def WK.c (a:R2)(b:Int)(c:Sl)(d:Hp)(e:Bool->Int->Hp->Prop):=R1 222 #[.pointer a,.I b,.slice c.a c.len c.cap] [.one .b,.I] d e
def YN.c (a:R2)(b:Int)(c:Hp)(d:Sl->Hp->Prop):=R1 223 #[.pointer a,.I b] [.one .s] c d
def XY.c (a:R2)(b c:Int)(d:Hp)(e:aN):=R1 224 #[.pointer a,.I b,.I c] [.I] d e
def XG.c (a:R2)(b c:Int)(d:Hp)(e:aN):=R1 225 #[.pointer a,.I b,.I c] [.I] d e
def Ys.c (a:R2)(b c:Int)(d:Hp)(e:aN):=R1 226 #[.pointer a,.I b,.I c] [.I] d e
def Wf.c (a:Sl)(b:Fv)(c:Hp)(d:Sl->Hp->Prop):=R1 227 #[.slice a.a a.len a.cap,.func (.func b.f) b.first b.captured] [.one .s] c d
def Yd.c (a b:Int)(c:R2)(d:Addr)(e:Hp)(f:aO):=R1 228 #[.agg #[.I a,.I b,.pointer c],.pointer (some d)] [.one .b] e f
def XR.c (a:R2)(b:Hp)(c:aN):=R1 229 #[.pointer a] [.I] b c
def ZQ.c (a:Sl)(b:Int)(c:Hp)(d:aN):=R1 230 #[.slice a.a a.len a.cap,.I b] [.I] c d
def Xk.c (a:R2)(b:Int)(c:Hp)(d:Sl->Hp->Prop):=R1 231 #[.pointer a,.I b] [.one .s] c d
def WO.c (a:Sl)(b:Fv)(c:Hp)(d:aP):=R1 232 #[.slice a.a a.len a.cap,.func (.func b.f) b.first b.captured] [] c d
def XN.c (a b:Int)(c:Addr)(d:Hp)(e:aN):=R1 233 #[.I a,.I b,.pointer (some c)] [.I] d e
def QG.c (a:Sl)(b:Hp)(c:aN):=R1 234 #[.slice a.a a.len a.cap] [.I] b c
def Xt.c (a:R2)(b c d:Int)(e:Sl)(f:Hp)(g:aN):=R1 235 #[.pointer a,.I b,.I c,.I d,.slice e.a e.len e.cap] [.I] f g
def XX.c (a:R2)(b c:Int)(d e:Bool)(f:Hp)(g:aN):=R1 236 #[.pointer a,.I b,.I c,.agg #[.bool d,.bool e]] [.I] f g
def X6.c (a:R2)(b:Int)(c:Hp)(d:Sl->Hp->Prop):=R1 237 #[.pointer a,.I b] [.one .s] c d
def X3.c (a:R2)(b:Int)(c:Hp)(d:Sl->Int->Hp->Prop):=R1 238 #[.pointer a,.I b] [.one .s,.I] c d
def Q9.c (a:Sl)(b:Hp)(c:aO):=R1 239 #[.slice a.a a.len a.cap] [.one .b] b c
def Qu.c (a:Sl)(b:Int)(c:Hp)(d:aP):=R1 240 #[.slice a.a a.len a.cap,.I b] [] c d
def Yl.c (a:R2)(b c:Int)(d:Hp)(e:aN):=R1 241 #[.pointer a,.I b,.I c] [.I] d e
def X1.c (a:R2)(b:Int)(c:Hp)(d:aO):=R1 242 #[.pointer a,.I b] [.one .b] c d
def Zy.c (a:R2)(b c:Int)(d:Hp)(e:aP):=R1 243 #[.pointer a,.I b,.I c] [] d e
def XO.c (a:R2)(b:Fv)(c:Hp)(d:Sl->Hp->Prop):=R1 244 #[.pointer a,.agg #[.func (.func b.f) b.first b.captured]] [.one .s] c d
def XM.c (a:R2)(b:Hp)(c:aN):=R1 245 #[.pointer a] [.I] b c
def Y9.c (a:R2)(b:Sl)(c:Hp)(d:Sl->Int->Hp->Prop):=R1 246 #[.pointer a,.slice b.a b.len b.cap] [.one .s,.I] c d
def Ww.c (a:R2)(b:Hp)(c:Option Addr->Hp->Prop):=R1 247 #[.pointer a] [.one .p] b c
def Wy.c (a:R2)(b:Hp)(c:Option Addr->Hp->Prop):=R1 248 #[.pointer a] [.one .p] b c
def ZG.c (a:R2)(b:Int)(c:Hp)(d:Option Addr->Hp->Prop):=R1 250 #[.pointer a,.I b] [.one .p] c d
def Y6.c (a:R2)(b:Hp)(c:Int->Bool->Hp->Prop):=R1 251 #[.pointer a] [.I,.one .b] b c
def XS.c (a:R2)(b c:Int)(d:Hp)(e:Int->Int->Hp->Prop):=R1 252 #[.pointer a,.I b,.I c] [.I,.I] d e
def Za.c (a:R2)(b:Int)(c:Hp)(d:aO):=R1 253 #[.pointer a,.I b] [.one .b] c d
def XP.c (a:R2)(b c:Int)(d:Hp)(e:aN):=R1 254 #[.pointer a,.I b,.I c] [.I] d e
def Yu.c (a:R2)(b c d:Int)(e:Hp)(f:aN):=R1 255 #[.pointer a,.I b,.I c,.I d] [.I] e f
def KD.c (a b c d:Int)(e:Hp)(f:Option Addr->Int->Hp->Prop):=R1 256 #[.I a,.agg #[.I b,.I c,.I d]] [.one .p,.I] e f
def Wb.c (a:Sl)(b:Int)(c:Fv)(d:Hp)(e:Int->Bool->Hp->Prop):=R1 257 #[.slice a.a a.len a.cap,.I b,.func (.func c.f) c.first c.captured] [.I,.one .b] d e
def YY.c (a b:Int)(c:R2)(d:Int)(e:Hp)(f:aN):=R1 258 #[.agg #[.I a,.I b,.pointer c],.I d] [.I] e f
def Wh.c (a:Sl)(b:Int)(c:Sl)(d:Hp)(e:Sl->Hp->Prop):=R1 259 #[.slice a.a a.len a.cap,.I b,.slice c.a c.len c.cap] [.one .s] d e
def Xn.c (a:Sl)(b:Hp)(c:Sl->Hp->Prop):=R1 260 #[.slice a.a a.len a.cap] [.one .s] b c
def Z6.c (a:Sl)(b:Fv)(c:Hp)(d:aP):=R1 261 #[.slice a.a a.len a.cap,.func (.func b.f) b.first b.captured] [] c d
def W8.c (a:R2)(b:Int)(c:Hp)(d:Bool->Int->Hp->Prop):=R1 263 #[.pointer a,.I b] [.one .b,.I] c d
def Xb.c (a:R2)(b:Sl)(c:Hp)(d:Bool->Int->Hp->Prop):=R1 264 #[.pointer a,.slice b.a b.len b.cap] [.one .b,.I] c d
def Yj.c (a:R2)(b c:Int)(d:Hp)(e:aP):=R1 265 #[.pointer a,.I b,.I c] [] d e
def Wi.c (a:Sl)(b:Fv)(c:Hp)(d:aN):=R1 266 #[.slice a.a a.len a.cap,.func (.func b.f) b.first b.captured] [.I] c d
def WN.c (a:Sl)(b c d:Int)(e:Fv)(f:Hp)(g:aP):=R1 267 #[.slice a.a a.len a.cap,.I b,.I c,.I d,.func (.func e.f) e.first e.captured] [] f g
def Wx.c (a:Sl)(b:Fv)(c:Hp)(d:aO):=R1 268 #[.slice a.a a.len a.cap,.func (.func b.f) b.first b.captured] [.one .b] c d
def YM.c (a:Int)(b:Addr)(c:Hp)(d:aO):=R1 269 #[.I a,.pointer (some b)] [.one .b] c d
def Wo.c (a:Sl)(b:Int)(c:Hp)(d:aO):=R1 270 #[.slice a.a a.len a.cap,.I b] [.one .b] c d
def YZ.c (a:R2)(b c:Int)(d:Hp)(e:Sl->Int->Hp->Prop):=R1 271 #[.pointer a,.I b,.I c] [.one .s,.I] d e
def Y4.c (a:R2)(b c:Int)(d e:Bool)(f:Hp)(g:aP):=R1 272 #[.pointer a,.I b,.I c,.agg #[.bool d,.bool e]] [] f g
def XB.c (a:R2)(b:Int)(c:Hp)(d:Int->Int->Bool->Hp->Prop):=R1 273 #[.pointer a,.I b] [.I,.I,.one .b] c d
def WP.c (a:Sl)(b:Hp)(c:Sl->Hp->Prop):=R1 274 #[.slice a.a a.len a.cap] [.one .s] b c
def ZN.c (a:R2)(b:Int)(c:Hp)(d:aN):=R1 275 #[.pointer a,.I b] [.I] c d
def W5.c (a b c d:Int)(e:Hp)(f:aO):=R1 276 #[.agg #[.I a,.I b],.agg #[.I c,.I d]] [.one .b] e f
def ZH.c (a:R2)(b:Hp)(c:Int->Int->Hp->Prop):=R1 277 #[.pointer a] [.I,.I] b c
def X5.c (a:Sl)(b:Hp)(c:aN):=R1 278 #[.slice a.a a.len a.cap] [.I] b c
def Qv.c (a:Option Nat)(b:Hp)(c:Fv->Hp->Prop):=R1 279 #[.map a] [.one .fn] b c
def Zr.c (a:R2)(b c:Int)(d:Hp)(e:aN):=R1 280 #[.pointer a,.I b,.I c] [.I] d e
def Yv.c (a:R2)(b:Int)(c:Hp)(d:aN):=R1 281 #[.pointer a,.I b] [.I] c d
def Kx.c (a:Sl)(b:Int)(c:Hp)(d:aP):=R1 283 #[.slice a.a a.len a.cap,.I b] [] c d
def YF.c (a:R2)(b:Int)(c:Hp)(d:Bool->Int->Hp->Prop):=R1 285 #[.pointer a,.I b] [.one .b,.I] c d
def Zm.c (a:R2)(b c:Int)(d:Hp)(e:aP):=R1 286 #[.pointer a,.I b,.I c] [] d e
def Ws.c (a:Sl)(b c:Int)(d:Fv)(e:Hp)(f:aP):=R1 287 #[.slice a.a a.len a.cap,.I b,.I c,.func (.func d.f) d.first d.captured] [] e f
def WW.c (a:Sl)(b:Fv)(c:Hp)(d:aN):=R1 295 #[.slice a.a a.len a.cap,.func (.func b.f) b.first b.captured] [.I] c d
def WF.c (a:Sl)(b:Int)(c:Hp)(d:aN):=R1 296 #[.slice a.a a.len a.cap,.I b] [.I] c d
def Yq.c (a:R2)(b:Int)(c:Hp)(d:Int->Int->Hp->Prop):=R1 297 #[.pointer a,.I b] [.I,.I] c d
def Zo.c (a:R2)(b:Int)(c:Sl)(d:Hp)(e:aP):=R1 298 #[.pointer a,.I b,.slice c.a c.len c.cap] [] d e
def Wg.c (a:Sl)(b:Fv)(c:Hp)(d:aO):=R1 300 #[.slice a.a a.len a.cap,.func (.func b.f) b.first b.captured] [.one .b] c d
def YQ.c (a b:Bool)(c:Hp)(d:aO):=R1 301 #[.agg #[.bool a,.bool b]] [.one .b] c d
def Wm.c (a:Sl)(b:Fv)(c:Hp)(d:aN):=R1 314 #[.slice a.a a.len a.cap,.func (.func b.f) b.first b.captured] [.I] c d
set_option maxRecDepth 100000
def Zp.h:Hn:=.q .o1 (.q (.q .o3 .aK) (.q .o1 (.q (.q .o6 (.k (.loop [(3,.I),(14,.I)] (.q .o1 (.q (.c .l .l) (.q (.k (.q .o5 .o7)) .o2)))))) .aL)))
abbrev _root_.aQ(a:Addr)(n:Nat)(h:Hp)(K:Int->Prop):Prop:=eW .i64 (a.add n) h K
abbrev _root_.aR(a:Addr)(n:Nat)(v:Value)(h:Hp)(K:Hp->Prop):Prop:=dG (a.add n) v h K
abbrev _root_.aX(a:Addr)(n:Nat)(h:Hp)(K:Sl->Prop):Prop:=jB (a.add n) h K
abbrev _root_.aY(a:Addr)(n:Nat)(h:Hp)(K:Option Addr->Prop):Prop:=fX (a.add n) h K
abbrev _root_.aZ(a:Addr)(n:Nat)(h:Hp)(K:Bool->Prop):Prop:=j8 (a.add n) h K
abbrev _root_.bA(a:Addr)(n:Nat)(h:Hp)(K:Value->Prop):Prop:=wA (a.add n) h K
abbrev _root_.bB(a:Addr)(n:Nat)(h:Hp)(K:Option Nat->Prop):Prop:=m0 (a.add n) h K
abbrev _root_.bC(a:Addr)(n:Nat)(h:Hp)(K:ByteArray->Prop):Prop:=xp (a.add n) h K
abbrev _root_.bD(p:Option Addr)(n:Nat)(h:Hp)(K:Int->Prop):Prop:=bQ p λa=>eW .i64 (a.add n) h K
abbrev _root_.bE(p:Option Addr)(n:Nat)(h:Hp)(K:Sl->Prop):Prop:=bQ p λa=>jB (a.add n) h K
abbrev _root_.bF(p:Option Addr)(n:Nat)(h:Hp)(K:Option Addr->Prop):Prop:=bQ p λa=>fX (a.add n) h K
abbrev _root_.bG(p:Option Addr)(n:Nat)(h:Hp)(K:Bool->Prop):Prop:=bQ p λa=>j8 (a.add n) h K
abbrev _root_.bH(p:Option Addr)(n:Nat)(h:Hp)(K:Value->Prop):Prop:=bQ p λa=>wA (a.add n) h K
abbrev _root_.bI(p:Option Addr)(n:Nat)(h:Hp)(K:Option Nat->Prop):Prop:=bQ p λa=>m0 (a.add n) h K
abbrev _root_.bJ(p:Option Addr)(n:Nat)(h:Hp)(K:ByteArray->Prop):Prop:=bQ p λa=>xp (a.add n) h K
abbrev _root_.aS(S:Hp->Prop)(a:Addr)(n:Nat)(K:Int->Prop):Prop:=gT S bN (a.add n) K
abbrev _root_.aT(S:Hp->Prop)(a:Addr)(n:Nat)(K:Sl->Prop):Prop:=gT S .s (a.add n) K
abbrev _root_.aU(S:Hp->Prop)(a:Addr)(n:Nat)(K:Option Addr->Prop):Prop:=gT S .p (a.add n) K
abbrev _root_.bL(e:Int)(K:Int->Prop):Prop:=Ar .i64 e K
abbrev _root_.bM(a:Addr)(h:Hp)(K:Int->Prop):Prop:=eW .i64 a h K
abbrev _root_.aV(c:Array Value)(t:Nat)(h:Hp)(K:Addr->Hp->Prop):Prop:=Nw (.cells c t (0,0)) h K
theorem Zp.o {a:R2}{b:Hp}{c:aN}(d:XW.c a b λd e=>If (!d) (c 0 e) (bE a 1 e λg=>WR [bN,bN] (λh=>h 0 0 e) λi (j:Int) (k:Int) l=>If (k<((g.len:Nat):Int)) (Ix g.a g.len k 1 λm=>m0 m l λn=>oC .i64 .b n l λo=>Nn k<|bL (o*2^(min k.toNat IntKind.i64.bits)) λp=>bL (j+p) λq=>bL (k+1) λr=>i q r l) (c j l))):Zp.c a b c:=Wa Tryz.func110 (x:=Zp.h) (R0 d)
def XW.h:Hn:=.q .o1 (.q (.cV (.seq [.op,.op,.op,.dA true 5 (RI.ops 5),.op])) .l)
theorem XW.o {a:R2}{b:Hp}{c:aO}(d:bY (λd e=>c d e) λf=>If (!a.isNone) (bD a 0 b λh=>f (decide (h>0)) b) (f false b)):XW.c a b c:=Wa Tryz.func142 (x:=XW.h) (R0 d)
def Q7.h:Hn:=.q .o2 (.q (.q (.cV (.seq [.op,.op,.op,.dA false 2 [.op,.op]])) .aJ) (.q .o4 (.q (.q .o1 (.k (.loop [(5,.I)] (.q (.q .o3 (.c .l .l)) (.q (.k (.o 11)) .o3))))) (.q .o3 .l))))
theorem Q7.o {a:Int}{b:Hp}{c:Option Addr->Int->Hp->Prop}(d:bY (λd e=>If d (c none 1 e) (Nw (.cells #[.I a,.slice none 0 0] 218 (0,0)) e λf g=>WR [bN] (λh=>h 1 g) λi (j:Int) k=>If (j<=a) (bQ (some f) λl=>jB (l.add 1) k λm=>Nw (.map #[] 0) k λn o=>Nw (.cells #[.map (some n.block)] 219 (0,0)) o λp q=>App m 1 8 219 [.map none] ⟨some p,1,1⟩ q λr s=>bQ (some f) λt=>dG (t.add 1) (.slice r.a r.len r.cap) s λu=>Ar .i64 (j*2) λv=>i v u) (c (some f) 0 k))) λw=>If (a<1) (w true b) (w (decide (a>1024)) b)):Q7.c a b c:=Wa Tryz.func154 (x:=Q7.h) (R0 d)
def XA.h:Hn:=.q .o1 (.q (.q .o5 (.q .o2 .aJ)) (.q (.q .o2 (.k (.loop [(8,.I)] (.q (.q .o5 (.c .l .l)) (.q (.k (.q .o4 .aK)) .o3))))) (.q .o4 .aM)))
theorem XA.o {a:R2}{b c:Int}{d:Hp}{e:aN}(f:Yl.c a b c d λf g=>If (f != 0) (e f g) (WR [bN] (λh=>h b g) λi (j:Int) k=>bL (b+c) λl=>If (j<l) (X1.c a j k λm n=>If (!m) (e 4 n) (bL (j+1) λo=>i o n)) (Zy.c a b c k λp=>e 0 p))):XA.c a b c d e:=Wa Tryz.func196 (x:=XA.h) (R0 f)
def Ys.h:Hn:=.q .o1 (.q (.q .o5 (.q .o2 .aJ)) (.q (.q .o2 (.k (.loop [(8,.I)] (.q (.q .o5 (.c .l .l)) (.q (.k (.q .o3 .aK)) .o3))))) (.q .o4 .aM)))
theorem Ys.o {a:R2}{b c:Int}{d:Hp}{e:aN}(f:Yl.c a b c d λf g=>If (f != 0) (e f g) (WR [bN] (λh=>h b g) λi (j:Int) k=>bL (b+c) λl=>If (j<l) (X1.c a j k λm n=>If m (e 9 n) (bL (j+1) λo=>i o n)) (Yj.c a b c k λp=>e 0 p))):Ys.c a b c d e:=Wa Tryz.func226 (x:=Ys.h) (R0 f)
def Yl.h:Hn:=.q .o1 (.q (.k (.q .o4 (.c .aM (.q (.cV (.seq [.op,.op,.op,.dA false 2 [.op,.op],.op,.dA false 6 (RI.ops 6),.op,.dA false 8 (RI.ops 8),.op])) .aK)))) .aM)
theorem Yl.o {a:R2}{b c:Int}{d:Hp}{e:aN}(f:XW.c a d λf g=>If (!f) (e 5 g) (bY (λh i=>bY (λj k=>bY (λl m=>If l (e 1 m) (e 0 m)) λn=>If j (n true k) (bQ a λo=>aQ o 0 k λp=>bL (p-b) λq=>n (decide (c>q)) k)) λr=>If h (r true i) (bD a 0 i λt=>r (decide (b>t)) i)) λu=>If (b<0) (u true g) (u (decide (c<1)) g))):Yl.c a b c d e:=Wa Tryz.func241 (x:=Yl.h) (R0 f)
def X1.h:Hn:=.q .o1 (.q (.q (.cV (.seq [.op,.op,.op,.op,.dA false 2 [.op,.op],.op,.dA false 6 (RI.ops 6)])) .aK) (.q .fW .aL))
theorem X1.o {a:R2}{b:Int}{c:Hp}{d:aO}(e:XW.c a c λe f=>bY (λg h=>bY (λi j=>If i (d false j) (XB.c a b j λk l m n=>d m n)) λo=>If g (o true h) (bD a 0 h λq=>o (decide (b≥q)) h)) λr=>If (!e) (r true f) (r (decide (b<0)) f)):X1.c a b c d:=Wa Tryz.func242 (x:=X1.h) (R0 e)
def Zy.h:Hn:=.q .o2 (.k (.loop [(6,.I)] (.q (.q .o5 (.c .l .l)) (.k (.q .fW (.q .o9 (.q .o5 (.q .o6 (.q (.q .o4 (.q .o3 (.c .o6 .l))) .o2)))))))))
theorem Zy.o {a:R2}{b c:Int}{d:Hp}{e:aP}(f:WR [bN] (λf=>f b d) λg (h:Int) i=>bL (b+c) λj=>If (h<j) (XB.c a h i λk l m n=>bQ a λo=>aX o 1 n λp=>Ix p.a p.len k 1 λq=>m0 q n λr=>mL .i64 .b r l n λs=>Nn k<|bL ((1:Int)*2^(min k.toNat IntKind.i64.bits)) λt=>bL (l+t) λu=>bL (h-l) λv=>Yj.c a l v s λw=>bL (b+c) λx=>If (u>x) (bL (u-x) λy=>Yj.c a x y w λz=>g u z) (g u w)) (e i)):Zy.c a b c d e:=Wa Tryz.func243 (x:=Zy.h) (R0 f)
def XS.h:Hn:=.q .o2 (.q (.k (.q .o4 (.c .aL (.q (.cV (.seq [.op,.op,.op,.dA false 2 [.op,.op],.op,.dA false 2 [.op,.op],.op,.dA false 2 [.op,.op],.op,.dA false 5 (RI.ops 5),.op])) .aJ)))) (.q (.q .o6 (.k (.loop [(42,.I)] (.q .o1 (.q (.c .l .l) (.q (.k (.q .o5 (.q (.cV (.seq [.op,.op,.op,.op,.op,.op,.op,.dA true 3 (RI.ops 3)])) (.c (.q .o5 (.q .o4 (.q .o3 .l))) .l)))) .o2)))))) .aL))
theorem XS.o {a:R2}{b c:Int}{d:Hp}{e:Int->Int->Hp->Prop}(f:XW.c a d λf g=>If (!f) (e 0 5 g) (bY (λh i=>bY (λj k=>bY (λl m=>bY (λn o=>If n (e 0 1 o) (bE a 1 o λq=>WR [bN] (λr=>r 0 o) λs (t:Int) u=>If (t<((q.len:Nat):Int)) (Ix q.a q.len t 1 λv=>m0 v u λw=>Nn t<|bL ((1:Int)*2^(min t.toNat IntKind.i64.bits)) λx=>bY (λy z=>If y (Qv.c w z λaa ab=>Vz.c aa ab λac ad=>X5.c ac ad λae af=>Zy.c a ae b af λag=>e ae 0 ag) (bL (t+1) λah=>s ah z)) λai=>If (x≥(if c>b then c else b)) (oC .i64 .b w u λaj=>ai (decide (aj>0)) u) (ai false u)) (e 0 6 u))) λak=>If l (ak true m) (bL (c-1) λal=>ak ((bits .and .i64 c al) != 0) m)) λam=>If j (am true k) (am (decide (c>1024)) k)) λan=>If h (an true i) (an (decide (c<1)) i)) λao=>If (b<1) (ao true g) (ao (decide (b>1024)) g))):XS.c a b c d e:=Wa Tryz.func252 (x:=XS.h) (R0 f)
def Yj.h:Hn:=.k (.loop [(1,.I),(2,.I)] (.q (.q .o2 (.c .l .l)) (.k (.q .o1 (.q (.k (.loop [(6,.I)] (.q (.q (.cV (.seq [.op,.op,.op,.op,.op,.op,.op,.op,.op,.op,.dA true 5 (RI.ops 5)])) (.c .l .l)) (.k .o3)))) (.q .o4 (.oq 10)))))))
theorem Yj.o {a:R2}{b c:Int}{d:Hp}{e:aP}(f:WR [bN,bN] (λf=>f b c d) λg (h:Int) (i:Int) j=>If (i>0) (WR [bN] (λk=>k 0 j) λl (m:Int) n=>bL (m+1) λo=>Nn o <| bL (m+1) λp=>Nn p<|bL ((h.fdiv (2^(min o.toNat IntKind.i64.bits)))*2^(min p.toNat IntKind.i64.bits)) λq=>bY (λr s=>If r (bL (m+1) λt=>l t s) (Zm.c a m h s λu=>Nn m<|bL ((1:Int)*2^(min m.toNat IntKind.i64.bits)) λv=>bL (h+v) λw=>Nn m<|bL ((1:Int)*2^(min m.toNat IntKind.i64.bits)) λx=>bL (i-x) λy=>g w y u)) λz=>If (q==h) (bL (m+1) λaa=>Nn aa<|bL ((1:Int)*2^(min aa.toNat IntKind.i64.bits)) λab=>z (decide (ab<=i)) n) (z false n)) (e j)):Yj.c a b c d e:=Wa Tryz.func265 (x:=Yj.h) (R0 f)
def XB.h:Hn:=.q .o3 (.q (.q .o6 (.k (.loop [(15,.I)] (.q .o1 (.q (.c .l .l) (.q (.k (.q .o5 (.q .o6 (.q .o3 (.c (.q .o5 .l) .l))))) .o2)))))) (.q .o3 .l))
theorem XB.o {a:R2}{b:Int}{c:Hp}{d:Int->Int->Bool->Hp->Prop}(e:bQ a λe=>aX e 1 c λf=>WR [bN] (λg=>g 0 c) λh (i:Int) j=>If (i<((f.len:Nat):Int)) (Ix f.a f.len i 1 λk=>m0 k j λl=>Nn i <| Nn i<|bL ((b.fdiv (2^(min i.toNat IntKind.i64.bits)))*2^(min i.toNat IntKind.i64.bits)) λm=>Lk .i64 .b l m j λn=>If (n.getD false) (d i m true j) (bL (i+1) λo=>h o j)) (d 0 0 false j)):XB.c a b c d:=Wa Tryz.func273 (x:=XB.h) (R0 e)
def Zm.h:Hn:=.q (.k (.loop [(1,.I),(2,.I)] (.q (.q (.cV (.quiet [.op,.op,.op,.op,.op,.op,.op,.op,.op,.dA true 12 (RI.ops 12)])) (.c .l .l)) (.k (.q (.cV (.tail 11 (RI.ops 11) [.op])) (.q .o8 .o3)))))) .o9
theorem Zm.o {a:R2}{b c:Int}{d:Hp}{e:aP}(f:WR [bN,bN] (λf=>f b c d) λg (h:Int) (i:Int) j=>bL (h+1) λk=>bE a 1 j λm=>bY (λn o=>If n (bE a 1 o λq=>Ix q.a q.len h 1 λr=>m0 r o λs=>Nn h<|bL ((1:Int)*2^(min h.toNat IntKind.i64.bits)) λt=>mL .i64 .b s (bits .xor .i64 i t) o λu=>bL (h+1) λv=>Nn v <| bL (h+1) λw=>Nn w<|bL ((i.fdiv (2^(min v.toNat IntKind.i64.bits)))*2^(min w.toNat IntKind.i64.bits)) λx=>bL (h+1) λy=>g y x u) (bE a 1 o λaa=>Ix aa.a aa.len h 1 λab=>m0 ab o λac=>ld .i64 .b ac i true o λad=>e ad)) λae=>If (k<((m.len:Nat):Int)) (bE a 1 j λag=>Ix ag.a ag.len h 1 λah=>m0 ah j λai=>Nn h<|bL ((1:Int)*2^(min h.toNat IntKind.i64.bits)) λaj=>Lk .i64 .b ai (bits .xor .i64 i aj) j λak=>ae (ak.getD false) j) (ae false j)):Zm.c a b c d e:=Wa Tryz.func286 (x:=Zm.h) (R0 f)
end Go.Proofs
namespace Go.Proofs
open Go.Vc
set_option maxRecDepth 100000
def Wc.h:Hn:=.q .o1 (.q (.q .o2 .aK) (.q .o4 .l))
theorem Wc.o {a:Sl}{b:Hp}{c:Sl->Hp->Prop}(d:If a.a.isNone (c ⟨none,0,0⟩ b) (aV #[] 31 b λd e=>App ⟨some d,0,0⟩ 3 24 31 [.I 0,.I 0,.I 0] a e λf g=>c f g)):Wc.c a b c:=Wa Tryz.func68 (x:=Wc.h) (R0 d)
def Wl.h:Hn:=.q .o1 (.q (.q .o3 (.k (.loop [(8,.I)] (.q .o1 (.q (.c .l .l) (.q (.k (.q .o2 (.q .o6 .aJ))) .o2)))))) .aM)
theorem Wl.o {a:Sl}{b:Fv}{c:Hp}{d:aN}(e:WR [bN] (λe=>e 0 c) λf (g:Int) h=>If (g<((a.len:Nat):Int)) (Ix a.a a.len g 3 λi=>aQ i 0 h λj=>aQ i 1 h λk=>aQ i 2 h λl=>V1 Tryz.prog b [.agg #[.I j,.I k,.I l]] [.one .b] h λm n=>If m (d g n) (bL (g+1) λo=>f o n)) (d (-1) h)):Wl.c a b c d:=Wa Tryz.func79 (x:=Wl.h) (R0 e)
def WG.h:Hn:=.q .o1 (.q (.q .o2 .aK) (.q .o4 .l))
theorem WG.o {a:Sl}{b:Hp}{c:Sl->Hp->Prop}(d:If a.a.isNone (c ⟨none,0,0⟩ b) (aV #[] 3 b λd e=>App ⟨some d,0,0⟩ 1 8 3 [.I 0] a e λf g=>c f g)):WG.c a b c:=Wa Tryz.func90 (x:=WG.h) (R0 d)
def Wk.h:Hn:=.q .o1 (.q (.q .o3 (.k (.loop [(8,.I)] (.q .o1 (.q (.c .l .l) (.q (.k (.q .o2 (.q .o6 .aJ))) .o2)))))) .aM)
theorem Wk.o {a:Sl}{b:Fv}{c:Hp}{d:aN}(e:WR [bN] (λe=>e 0 c) λf (g:Int) h=>If (g<((a.len:Nat):Int)) (Ix a.a a.len g 1 λi=>fX i h λj=>V1 Tryz.prog b [.pointer j] [.one .b] h λk l=>If k (d g l) (bL (g+1) λm=>f m l)) (d (-1) h)):Wk.c a b c d:=Wa Tryz.func111 (x:=Wk.h) (R0 e)
def ZY.h:Hn:=.q .o1 (.q (.c .l .l) (.q .o3 .l))
theorem ZY.o {a:Int}{b:Hp}{c:aN}(d:ZM.c a b λd e=>c d e):ZY.c a b c:=Wa Tryz.func129 (x:=ZY.h) (R0 d)
def XC.h:Hn:=.q .o1 (.q .o1 (.q (.q .o3 (.k (.loop [(3,.I),(11,.I)] (.q .o1 (.q (.c .l .l) (.q (.k (.q .o3 (.q .o5 (.q .o2 (.c .o2 .l))))) .o2)))))) (.q .o3 (.q (.q .o3 (.k (.loop [(6,.one .s),(27,.I)] (.q .o1 (.q (.c .l .l) (.q (.k (.q .o3 .o4)) .o2)))))) .aL))))
theorem XC.o {a:Sl}{b:Hp}{c:Sl->Hp->Prop}(d:WR [bN,bN] (λd=>d 0 0 b) λe (f:Int) (g:Int) h=>If (g<((a.len:Nat):Int)) (Ix a.a a.len g 1 λi=>jB i h λj=>bL (f+((j.len:Nat):Int)) λk=>If (k<0) (False) (bL (g+1) λl=>e k l h)) (XJ.c ⟨none,0,0⟩ f h λm n=>WR [.s,bN] (λo=>o m 0 n) λp (q:Sl) (r:Int) s=>If (r<((a.len:Nat):Int)) (Ix a.a a.len r 1 λt=>jB t s λu=>App q 1 8 3 [.I 0] u s λv w=>bL (r+1) λx=>p v x w) (c q s))):XC.c a b c:=Wa Tryz.func140 (x:=XC.h) (R0 d)
def Wj.h:Hn:=.q .o2 (.q .o5 .l)
theorem Wj.o {a:Sl}{b c:Bool}{d:Hp}{e:aO}(f:aV #[.bool b,.bool c] 160 d λf g=>aZ f 0 g λh=>aZ f 1 g λi=>Wn.c a h i g λj k=>e (decide (j≥0)) k):Wj.c a b c d e:=Wa Tryz.func147 (x:=Wj.h) (R0 f)
def ZM.h:Hn:=.q .o1 (.jc [(0,.one (.i .u64)),(2,.I)] (.q .o2 (.c (.q .o3 .o1) .l)) (.jc [(0,.one (.i .u64)),(2,.I)] (.q .o2 (.c (.q .o3 .o3) .l)) (.jc [(0,.one (.i .u64)),(2,.I)] (.q .o2 (.c (.q .o3 .o3) .l)) (.q .o7 .l))))
theorem ZM.o {a:Int}{b:Hp}{c:aN}(d:Jn [(.i .u64),bN] (λ(d:Int) (e:Int) f=>Jn [(.i .u64),bN] (λ(g:Int) (h:Int) i=>Jn [(.i .u64),bN] (λ(j:Int) (k:Int) l=>Ar .u8 j λm=>Fs (ByteArray.mk #[0,1,2,2,3,3,3,3,4,4,4,4,4,4,4,4,5,5,5,5,5,5,5,5,5,5,5,5,5,5,5,5,6,6,6,6,6,6,6,6,6,6,6,6,6,6,6,6,6,6,6,6,6,6,6,6,6,6,6,6,6,6,6,6,7,7,7,7,7,7,7,7,7,7,7,7,7,7,7,7,7,7,7,7,7,7,7,7,7,7,7,7,7,7,7,7,7,7,7,7,7,7,7,7,7,7,7,7,7,7,7,7,7,7,7,7,7,7,7,7,7,7,7,7,7,7,7,7,8,8,8,8,8,8,8,8,8,8,8,8,8,8,8,8,8,8,8,8,8,8,8,8,8,8,8,8,8,8,8,8,8,8,8,8,8,8,8,8,8,8,8,8,8,8,8,8,8,8,8,8,8,8,8,8,8,8,8,8,8,8,8,8,8,8,8,8,8,8,8,8,8,8,8,8,8,8,8,8,8,8,8,8,8,8,8,8,8,8,8,8,8,8,8,8,8,8,8,8,8,8,8,8,8,8,8,8,8,8,8,8,8,8,8,8,8,8,8,8,8,8,8,8,8,8,8,8]) m λn=>bL n λo=>bL (k+o) λp=>c p l) λq=>If (g≥256) (Nn (8:Int) <| bL (h+8) λr=>q (g.fdiv (2^(min (8:Int).toNat IntKind.u64.bits))) r i) (q g h i)) λs=>If (d≥65536) (Nn (16:Int) <| bL (e+16) λt=>s (d.fdiv (2^(min (16:Int).toNat IntKind.u64.bits))) t f) (s d e f)) λu=>If (a≥4294967296) (Nn (32:Int) <| u (a.fdiv (2^(min (32:Int).toNat IntKind.u64.bits))) 32 b) (u a 0 b)):ZM.c a b c:=Wa Tryz.func168 (x:=ZM.h) (R0 d)
def Wq.h:Hn:=.q .o1 (.q (.q .o2 .aK) (.q .o4 .l))
theorem Wq.o {a:Sl}{b:Hp}{c:Sl->Hp->Prop}(d:If a.a.isNone (c ⟨none,0,0⟩ b) (aV #[] 130 b λd e=>App ⟨some d,0,0⟩ 2 32 130 [.I 0,.slice none 0 0] a e λf g=>c f g)):Wq.c a b c:=Wa Tryz.func185 (x:=Wq.h) (R0 d)
def XJ.h:Hn:=.q .o1 (.jc [] (.q .o2 (.c .o2 .l)) (.q (.q .o8 (.q .o2 (.c .fW .l))) .aL))
theorem XJ.o {a:Sl}{b:Int}{c:Hp}{d:Sl->Hp->Prop}(e:Jn [] (λe=>bL (((a.cap:Nat):Int)-((a.len:Nat):Int)) λf=>bL (b-f) λg=>If (g>0) (eX a 1 0 ((a.cap:Nat):Int) (a.cap:Nat) λh=>qO h 1 8 3 [.I 0] g e λi j=>eX i 1 0 ((a.len:Nat):Int) (i.cap:Nat) λk=>d k j) (d a e)) λl=>If (b<0) (False) (l c)):XJ.c a b c d:=Wa Tryz.func201 (x:=XJ.h) (R0 e)
def Wn.h:Hn:=.q .o2 (.q (.q .o3 (.k (.loop [(8,.I)] (.q .o1 (.q (.c .l .l) (.q (.k (.q .o2 (.q (.oq 6) .aJ))) .o2)))))) .aM)
theorem Wn.o {a:Sl}{b c:Bool}{d:Hp}{e:aN}(f:aV #[.bool b,.bool c] 160 d λf g=>WR [bN] (λh=>h 0 g) λi (j:Int) k=>If (j<((a.len:Nat):Int)) (aZ f 0 k λl=>aZ f 1 k λm=>Ix a.a a.len j 2 λn=>aZ n 0 k λo=>aZ n 1 k λp=>If ((l==o)&&((m==p)&&true)) (e j k) (bL (j+1) λq=>i q k)) (e (-1) k)):Wn.c a b c d e:=Wa Tryz.func203 (x:=Wn.h) (R0 f)
def W3.h:Hn:=.q .o5 (.k (.loop [(2,.I),(3,.I)] (.q (.q .o3 (.c .l .l)) (.q (.k (.cV (.held true [13,15] (.tk [0,1,2,3,4,5,6,7,8,9,10,11,12] (.all [(13,.take 14 (.all [(15,.done)]))]))))) .o6))))
theorem W3.o {a:Sl}{b:Hp}{c:aP}(d:bL (((a.len:Nat):Int)-1) λd=>WR [bN,bN] (λe=>e 0 d b) λf (g:Int) (h:Int) i=>If (g<h) (dW i λj=>Ix a.a a.len h 1 λk=>gT j bN k λ(l:Int)=>Ix a.a a.len g 1 λm=>gT j bN m λ(n:Int)=>Ix a.a a.len g 1 λo=>dG o (.I l) i λp=>Ix a.a a.len h 1 λq=>dG q (.I n) p λr=>bL (g+1) λs=>bL (h-1) λt=>f s t r) (c i)):W3.c a b c:=Wa Tryz.func217 (x:=W3.h) (R0 d)
def Wf.h:Hn:=.q .o1 (.q .o4 (.q (.q .o2 .aJ) (.q (.q .o3 (.k (.loop [(5,.I),(6,.I)] (.q (.q .o4 (.c .l .l)) (.q (.k (.q .o6 (.q .o4 (.c (.q .o5 .o3) .l)))) .o3))))) (.q .o4 (.q .o4 .l)))))
theorem Wf.o {a:Sl}{b:Fv}{c:Hp}{d:Sl->Hp->Prop}(e:Wi.c a b c λe f=>If (e==(-1)) (d a f) (bL (e+1) λg=>WR [bN,bN] (λh=>h e g f) λi (j:Int) (k:Int) l=>If (k<((a.len:Nat):Int)) (Ix a.a a.len k 3 λm=>aQ m 0 l λn=>aQ m 1 l λo=>aY m 2 l λp=>aV #[.I 0,.I 0,.pointer none] 210 l λq r=>aR q 0 (.I n) r λs=>aR q 1 (.I o) s λt=>aR q 2 (.pointer p) t λu=>aQ q 0 u λv=>aQ q 1 u λw=>aY q 2 u λx=>V1 Tryz.prog b [.agg #[.I v,.I w,.pointer x]] [.one .b] u λy z=>If (!y) (aQ q 0 z λaa=>aQ q 1 z λab=>aY q 2 z λac=>Ix a.a a.len j 3 λad=>aR ad 0 (.I aa) z λae=>aR ad 1 (.I ab) ae λaf=>aR ad 2 (.pointer ac) af λag=>bL (j+1) λah=>bL (k+1) λai=>i ah ai ag) (bL (k+1) λaj=>i j aj z)) (eX a 3 j (a.len:Nat) (a.cap:Nat) λak=>CZ ak [.I 0,.I 0,.pointer none] l λal=>eX a 3 0 j (a.cap:Nat) λam=>d am al))):Wf.c a b c d:=Wa Tryz.func227 (x:=Wf.h) (R0 e)
def WO.h:Hn:=.q .o3 .o7
theorem WO.o {a:Sl}{b:Fv}{c:Hp}{d:aP}(e:Ar .u64 ((a.len:Nat):Int) λe=>ZY.c e c λf g=>WN.c a 0 ((a.len:Nat):Int) f b g λh=>d h):WO.c a b c d:=Wa Tryz.func232 (x:=WO.h) (R0 e)
def Wb.h:Hn:=.q .o2 (.q .o3 (.q .o3 (.q (.k (.loop [(9,.I),(10,.I)] (.q (.q .o3 (.c .l .l)) (.k (.q .o7 (.q .o8 (.c .o3 .o2))))))) (.q (.cV (.seq [.op,.op,.op,.op,.op,.dA true 8 (RI.ops 8),.op,.op])) .l))))
theorem Wb.o {a:Sl}{b:Int}{c:Fv}{d:Hp}{e:Int->Bool->Hp->Prop}(f:WR [bN,bN] (λf=>f 0 ((a.len:Nat):Int) d) λg (h:Int) (i:Int) j=>If (h<i) (bL (h+i) λk=>Ar .u64 k λl=>Nn (1:Int) <| bL (l.fdiv (2^(min (1:Int).toNat IntKind.u64.bits))) λm=>Ix a.a a.len m 3 λn=>aQ n 0 j λo=>aQ n 1 j λp=>aY n 2 j λq=>V1 Tryz.prog c [.agg #[.I o,.I p,.pointer q],.I b] [.I] j λr s=>If (r<0) (bL (m+1) λt=>g t i s) (g h m s)) (bY (λu v=>e h u v) λw=>If (h<((a.len:Nat):Int)) (Ix a.a a.len h 3 λx=>aQ x 0 j λy=>aQ x 1 j λz=>aY x 2 j λaa=>V1 Tryz.prog c [.agg #[.I y,.I z,.pointer aa],.I b] [.I] j λab ac=>w (ab==0) ac) (w false j))):Wb.c a b c d e:=Wa Tryz.func257 (x:=Wb.h) (R0 f)
def Wh.h:Hn:=.q .o1 (.q .o3 (.q .o3 (.q (.q .o2 .aJ) (.q .o3 (.q (.q .o3 (.c (.q .o4 .l) .l)) (.q (.q .o6 (.c (.q .fW (.q .o5 (.q (.cV (.tail 8 (RI.ops 8) [.op])) .aL))) .l)) (.q .o6 (.q (.q .o8 (.c (.q (.cV (.tail 8 (RI.ops 8) [.op])) (.q .o5 .aL)) .l)) (.q .o5 (.q .o5 .aL))))))))))
theorem Wh.o {a:Sl}{b:Int}{c:Sl}{d:Hp}{e:Sl->Hp->Prop}(f:eX a 3 b (a.len:Nat) (a.cap:Nat) λf=>If (((c.len:Nat):Int)==0) (e a d) (If (b==((a.len:Nat):Int)) (App a 3 24 210 [.I 0,.I 0,.pointer none] c d λg h=>e g h) (bL (((a.len:Nat):Int)+((c.len:Nat):Int)) λi=>If (i>((a.cap:Nat):Int)) (eX a 3 0 b (a.cap:Nat) λj=>bL (((a.len:Nat):Int)+((c.len:Nat):Int)) λk=>bL (k-b) λl=>qO j 3 24 210 [.I 0,.I 0,.pointer none] l d λm n=>eX m 3 b (m.len:Nat) (m.cap:Nat) λo=>uA o 3 c n λp q=>bL (b+((c.len:Nat):Int)) λr=>eX m 3 r (m.len:Nat) (m.cap:Nat) λs=>eX a 3 b (a.len:Nat) (a.cap:Nat) λt=>uA s 3 t q λu v=>e m v) (bL (((a.len:Nat):Int)+((c.len:Nat):Int)) λw=>eX a 3 0 w (a.cap:Nat) λx=>bL (b+((c.len:Nat):Int)) λy=>eX x 3 y (x.len:Nat) (x.cap:Nat) λz=>ud Tryz.prog 282 [.slice c.a c.len c.cap,.slice z.a z.len z.cap] d λaa ab=>If (!aa) (bL (b+((c.len:Nat):Int)) λac=>eX x 3 ac (x.len:Nat) (x.cap:Nat) λad=>eX x 3 b (x.len:Nat) (x.cap:Nat) λae=>uA ad 3 ae ab λaf ag=>eX x 3 b (x.len:Nat) (x.cap:Nat) λah=>uA ah 3 c ag λai aj=>e x aj) (eX x 3 ((a.len:Nat):Int) (x.len:Nat) (x.cap:Nat) λak=>uA ak 3 c ab λal am=>eX x 3 b (x.len:Nat) (x.cap:Nat) λan=>Kx.c an ((c.len:Nat):Int) am λao=>e x ao))))):Wh.c a b c d e:=Wa Tryz.func259 (x:=Wh.h) (R0 f)
def Xn.h:Hn:=.q .o1 (.q .o7 .l)
theorem Xn.o {a:Sl}{b:Hp}{c:Sl->Hp->Prop}(d:eX a 1 0 ((a.len:Nat):Int) ((a.len:Nat):Int) λd=>c d b):Xn.c a b c:=Wa Tryz.func260 (x:=Xn.h) (R0 d)
def Wi.h:Hn:=.q .o1 (.q (.q .o3 (.k (.loop [(8,.I)] (.q .o1 (.q (.c .l .l) (.q (.k (.q .o2 (.q .o6 .aJ))) .o2)))))) .aM)
theorem Wi.o {a:Sl}{b:Fv}{c:Hp}{d:aN}(e:WR [bN] (λe=>e 0 c) λf (g:Int) h=>If (g<((a.len:Nat):Int)) (Ix a.a a.len g 3 λi=>aQ i 0 h λj=>aQ i 1 h λk=>aY i 2 h λl=>V1 Tryz.prog b [.agg #[.I j,.I k,.pointer l]] [.one .b] h λm n=>If m (d g n) (bL (g+1) λo=>f o n)) (d (-1) h)):Wi.c a b c d:=Wa Tryz.func266 (x:=Wi.h) (R0 e)
def Wx.h:Hn:=.q .o1 (.q .o5 .l)
theorem Wx.o {a:Sl}{b:Fv}{c:Hp}{d:aO}(e:WW.c a b c λe f=>d (decide (e≥0)) f):Wx.c a b c d:=Wa Tryz.func268 (x:=Wx.h) (R0 e)
def Wo.h:Hn:=.q .o1 (.q .o5 .l)
theorem Wo.o {a:Sl}{b:Int}{c:Hp}{d:aO}(e:WF.c a b c λe f=>d (decide (e≥0)) f):Wo.c a b c d:=Wa Tryz.func270 (x:=Wo.h) (R0 e)
def WP.h:Hn:=.q .o1 (.q (.q .o2 .aK) (.q .o4 .l))
theorem WP.o {a:Sl}{b:Hp}{c:Sl->Hp->Prop}(d:If a.a.isNone (c ⟨none,0,0⟩ b) (aV #[] 69 b λd e=>App ⟨some d,0,0⟩ 1 24 69 [.slice none 0 0] a e λf g=>c f g)):WP.c a b c:=Wa Tryz.func274 (x:=WP.h) (R0 d)
def X5.h:Hn:=.q .o1 (.jc [] (.q .o3 (.c .o2 .l)) (.q .o4 (.q (.q .o1 (.k (.loop [(3,.I),(4,.I)] (.q (.q .o4 (.c .l .l)) (.q (.k .o7) .o3))))) .aL)))
theorem X5.o {a:Sl}{b:Hp}{c:aN}(d:Jn [] (λd=>Ix a.a a.len 0 1 λe=>bM e d λf=>WR [bN,bN] (λg=>g f 1 d) λh (i:Int) (j:Int) k=>If (j<((a.len:Nat):Int)) (Ix a.a a.len j 1 λl=>bM l k λm=>bL (j+1) λn=>h (if m<i then m else i) n k) (c i k)) λo=>If (((a.len:Nat):Int)<1) (False) (o b)):X5.c a b c:=Wa Tryz.func278 (x:=X5.h) (R0 d)
def Ws.h:Hn:=.q .o3 (.k (.loop [(8,.I)] (.q (.q .o3 (.c .l .l)) (.q (.k (.q .o2 (.k (.loop [(9,.I)] (.q (.q (.cV (.ic true [14] [(34,.one .b)] (.tk [0,1,2,3] (.split 21 (.tk [4,5,6,7,8,9,10,11,12,13] (.all [(14,.take 15 (.take 16 (.done)))])) (.take 4 (.take 5 (.take 6 (.take 7 (.take 8 (.take 9 (.take 10 (.take 11 (.take 12 (.take 13 (.all [(14,.take 15 (.take 16 (.done)))]))))))))))))))) (.c .l .l)) (.q (.k (.cV (.held true [15,17] (.take 0 (.take 1 (.take 2 (.take 3 (.take 4 (.take 5 (.take 6 (.take 7 (.take 8 (.take 9 (.take 10 (.take 11 (.take 12 (.take 13 (.take 14 (.all [(15,.take 16 (.all [(17,.done)]))]))))))))))))))))))) .o3)))))) .o3))))
theorem Ws.o {a:Sl}{b c:Int}{d:Fv}{e:Hp}{f:aP}(g:bL (b+1) λg=>WR [bN] (λh=>h g e) λi (j:Int) k=>If (j<c) (WR [bN] (λl=>l j k) λm (n:Int) o=>Jn [.b] (λ(p:Bool) q=>If p (dW q λr=>bL (n-1) λs=>bL (n-1) λt=>Ix a.a a.len t 1 λu=>gT r bN u λ(v:Int)=>Ix a.a a.len n 1 λw=>gT r bN w λ(x:Int)=>Ix a.a a.len n 1 λy=>dG y (.I v) q λz=>Ix a.a a.len s 1 λaa=>dG aa (.I x) z λab=>bL (n-1) λac=>m ac ab) (bL (j+1) λad=>i ad q)) λae=>dW o λaf=>If (n>b) (Ix a.a a.len n 1 λag=>gT af bN ag λ(ah:Int)=>bL (n-1) λai=>Ix a.a a.len ai 1 λaj=>gT af bN aj λ(ak:Int)=>V1 Tryz.prog d [.I ah,.I ak] [.I] o λal am=>ae (decide (al<0)) am) (ae false o)) (f k)):Ws.c a b c d e f:=Wa Tryz.func287 (x:=Ws.h) (R0 g)
def WW.h:Hn:=.q .o1 (.q (.q .o3 (.k (.loop [(8,.I)] (.q .o1 (.q (.c .l .l) (.q (.k (.q .o2 (.q .o6 .aJ))) .o2)))))) .aM)
theorem WW.o {a:Sl}{b:Fv}{c:Hp}{d:aN}(e:WR [bN] (λe=>e 0 c) λf (g:Int) h=>If (g<((a.len:Nat):Int)) (Ix a.a a.len g 1 λi=>bM i h λj=>V1 Tryz.prog b [.I j] [.one .b] h λk l=>If k (d g l) (bL (g+1) λm=>f m l)) (d (-1) h)):WW.c a b c d:=Wa Tryz.func295 (x:=WW.h) (R0 e)
def WF.h:Hn:=.q .o1 (.q (.q .o3 (.k (.loop [(8,.I)] (.q .o1 (.q (.c .l .l) (.q (.k (.q .o2 (.q .o6 .aJ))) .o2)))))) .aM)
theorem WF.o {a:Sl}{b:Int}{c:Hp}{d:aN}(e:WR [bN] (λe=>e 0 c) λf (g:Int) h=>If (g<((a.len:Nat):Int)) (Ix a.a a.len g 1 λi=>bM i h λj=>If (b==j) (d g h) (bL (g+1) λk=>f k h)) (d (-1) h)):WF.c a b c d:=Wa Tryz.func296 (x:=WF.h) (R0 e)
def Wg.h:Hn:=.q .o1 (.q .o5 .l)
theorem Wg.o {a:Sl}{b:Fv}{c:Hp}{d:aO}(e:Wm.c a b c λe f=>d (decide (e≥0)) f):Wg.c a b c d:=Wa Tryz.func300 (x:=Wg.h) (R0 e)
def Wm.h:Hn:=.q .o1 (.q (.q .o3 (.k (.loop [(8,.I)] (.q .o1 (.q (.c .l .l) (.q (.k (.q .o2 (.q .o6 .aJ))) .o2)))))) .aM)
theorem Wm.o {a:Sl}{b:Fv}{c:Hp}{d:aN}(e:WR [bN] (λe=>e 0 c) λf (g:Int) h=>If (g<((a.len:Nat):Int)) (Ix a.a a.len g 2 λi=>aZ i 0 h λj=>aZ i 1 h λk=>V1 Tryz.prog b [.agg #[.bool j,.bool k]] [.one .b] h λl m=>If l (d g m) (bL (g+1) λn=>f n m)) (d (-1) h)):Wm.c a b c d:=Wa Tryz.func314 (x:=Wm.h) (R0 e)
end Go.Proofs
namespace Go.Bu
open Go Go.Vc Go.Proofs
variable {σ:Hp}{p n sb:Nat}{S:Nat->Bool}{ms:List Nat}
theorem nf {k:Nat}{K:Int->Prop}(hk:k<=62)(hK:K ((2^k:Nat):Int)):Nn (k:Int) (Ar .i64 (1*2^(min (k:Int).toNat IntKind.i64.bits)) K):=by
 refine nn O ?_;rw[D5 hk];exact bZ aA (JA hk) hK
theorem EJ {a k:Nat}{K:Int->Prop}(hk:k<=62)(ha:a*2^k<=4611686018427387904)(hK:K ((a*2^k:Nat):Int)):Ar .i64 ((a:Int)*2^(min (k:Int).toNat IntKind.i64.bits)) K:=by
 rw[D5 hk];exact bZ aA ha hK
theorem tI {x k j:Nat}{K:Int->Prop}(hj:j=k)(hk:k<=62)(hx:x<=4611686018427387904)(hK:K ((x/2^k*2^k:Nat):Int)) :
 Ar .i64 (((x:Int).fdiv (2^(min (k:Int).toNat IntKind.i64.bits)))*2^(min (j:Int).toNat IntKind.i64.bits)) K:=by
 subst hj;rw[D5 hk,Ju];refine bZ aA ?_ hK;exact zI (yL _ _) hx
theorem BH.rN (h:BH σ p n S sb ms){K:Int->Prop}(hK:K (n:Int)):eW .i64 (Addr.add ⟨p,0,none⟩ 0) σ K:=dJ h.Ε hK
theorem BH.rB (h:BH σ p n S sb ms){K:Sl->Prop}(hK:∀cap,K ⟨some ⟨sb,0,none⟩,ms.length,cap⟩):jB (Addr.add ⟨p,0,none⟩ 1) σ K:=by
 obtain⟨cap,a⟩:=h.lu;rw[add_lit];exact ox a (hK cap)
theorem BH.rM (h:BH σ p n S sb ms){k m:Nat}(hm:ms[k]?=some m){K:Option Nat->Prop}(hK:K (some m)):Ix (some ⟨sb,0,none⟩) ms.length (k:Int) 1 λa=>m0 a σ K:=by
 refine ix O (by have:=(cS.1 hm).1;omega) ?_;rw[add_lit];refine Mb ?_ hK;have:=h.Ss hm;simpa using this
theorem yM (h:BH σ p n S sb ms){R:aO}(hR:R true σ):XW.c (aW p) σ R:=by
 refine XW.o ?_;refine bY.intro (cJ rfl (aG (h.rN ?_)));have:=h.n1;rw[zU O];exact hR
def Zi (n:Nat)(start aF:Int):Bool:=decide (0<=start)&&(decide (1<=aF)&&decide (aF<=n-start))
theorem IP (h:BH σ p n S sb ms)(start aF:Int){R:aN}(h0:Zi n start aF=true->R 0 σ)(h1:Zi n start aF=false->R 1 σ):Yl.c (aW p) start aF σ R:=by
 refine Yl.o ?_;have a:¬(0<=start/\1<=aF/\aF<=n-start)->R 1 σ:=λd=>h1 (by simp only[Zi,←vB];exact zb d);have n1:=h.n1;have n2:=h.n2;refine yM h (cF rfl (bY.intro ?_));refine cH (λh1=>bY.intro (cJ rfl (bY.intro (cJ rfl (cJ rfl (a O)))))) λh1=>?_;refine bY.intro (cH (λe=>bY.intro (cJ rfl (cJ rfl (a O)))) λe=>?_);refine aG (h.rN ?_);refine bY.intro (cH (λg=>cJ rfl (a O)) λg=>?_);refine aG (h.rN (ar O O ?_));refine cH (λb=>a O) λb=>h0 ?_;simp only[Zi,zF,zR];omega
theorem Ie (h:BH σ p n S sb ms)(x:Nat)(hx:x<=4611686018427387904){R:Int->Int->Bool->Hp->Prop}
 (h1:∀k q,can S k q=true->x/2^k=q->R (k:Int) ((q*2^k:Nat):Int) true σ) (h0:S x=false->R 0 0 false σ):XB.c (aW p) (x:Int) σ R:=by
 refine XB.o ?_;refine aG (h.rB λcap=>?_);refine ZP (a:=bN) (λt u=>∃k:Nat,t=(k:Int)/\k<=ms.length/\u=σ/\∀j,j<k->can S j (x/2^j)=false) (λt _=>ms.length-t.toNat) ⟨0,rfl,O,rfl,λj d=>O⟩ ?_;rintro t u ⟨k,rfl,y,rfl,b⟩;have w:=h.len;refine cH (λg=>?_) (λr=>?_)
 ·simp only at g;obtain⟨m,s⟩:=h.get (k:=k) O;refine h.rM s (nn O (nn O (tI rfl O hx (h.lk s rfl ?_))));cases hc:can S k (x/2^k)
  ·refine cF aA (bZ (m:=k+1) O O ?_);refine⟨⟨k+1,rfl,O,rfl,λj d=>?_⟩,O⟩;by_cases e:j=k
   ·rw[e];exact hc
   ·exact b j O
  ·exact cJ aA (h1 k _ hc rfl)
 ·simp only at r;refine h0 ?_;cases hs:S x
  ·rfl
  ·obtain⟨j,d⟩:=VY h.jK hs;have:=h.fits (ZX h.jK (ZR.1 d).1);rw[b j O]at d;cases d
def mY (S:Nat->Bool)(x:Int):Bool:=decide (0<=x)&&S x.toNat
theorem Fu (h:BH σ p n S sb ms)(x:Int){R:aO}(hR:R (mY S x) σ):X1.c (aW p) x σ R:=by
 refine X1.o ?_;have n2:=h.n2;refine yM h (bY.intro (cF rfl ?_));refine bY.intro (cH (λb=>cJ rfl ?_) λb=>aG (h.rN ?_))
 ·have:mY S x=false:=by simp[mY];intro;omega
  rw[this]at hR;exact hR
 ·refine cH (λi=>?_) λi=>?_
  ·have:mY S x=false:=by
    simp only[mY];cases a:S x.toNat
    ·simp
    ·have:=h.jK _ a;omega
   rw[this]at hR;exact hR
  ·obtain⟨y,rfl⟩:=zk (show 0<=x by omega);have e:mY S (y:Int)=S y:=by simp[mY]
   rw[e]at hR;refine Ie h y O (λk q g d=>?_) λa=>?_
   ·rw[Vb g d]at hR;exact hR
   ·rw[a]at hR;exact hR
theorem Wpz {k q:Nat}(h:BH σ p n S sb ms)(hf:q*2^k+2^k<=n)(hd:∀x,x/2^k=q->S x=false){R:aP}
 (hR:∀σ',Ext (· ∈ ms) σ σ'->BH σ' p n (ins S k q) sb ms->R σ'):Zm.c (aW p) (k:Int) ((q*2^k:Nat):Int) σ R:=by
 refine Zm.o ?_;refine Kh (a:=bN) (bb:=bN)
  (λo s C=>∃(j r:Nat) (T:Nat->Bool),o=(j:Int)/\s=((r*2^j:Nat):Int)/\r*2^j+2^j<=n/\BH C p n T sb ms/\Ext (· ∈ ms) σ C/\(∀x,x/2^j=r->T x=false)/\ins T j r=ins S k q)
  (λo _ _=>ms.length-o.toNat) ⟨k,q,S,rfl,rfl,hf,h,Ext.refl _ _,hd,rfl⟩ ?_
 rintro o s C ⟨j,r,T,rfl,rfl,z,d,P,A,y⟩;have Y:=d.len;have V:=d.fits z;have W:=d.n2;have Q:=kY j;obtain⟨m,B⟩:=d.get V;have w:¬full (ins T j r) (j+1) (r/2)=true->(bQ (some ⟨p,0,none⟩) λM=>jB (M.add 1) C λD=>Ix D.a D.len (j:Int) 1 λG=>m0 G C λH=>ld .i64 .b H ((r*2^j:Nat):Int) true C λv3=>R v3):=by
  intro g;refine aG (d.rB λcap=>d.rM B ?_);refine d.wu B A g z rfl λE e J=>hR E (P.trans e) ?_;rw[←y];exact J
 refine bZ (m:=j+1) O O (aG (d.rB λcap=>bY.intro ?_));refine cH (λK=>?_) (λL=>?_)
 ·simp only at K;refine aG (d.rB λcap=>d.rM B (nf O ?_));have N:=JA (show j<=62 by omega);have F:bits .xor .i64 ((r*2^j:Nat):Int) ((2^j:Nat):Int)=((iw r*2^j:Nat):Int):=by
   rw[M6 O O,Wmc]
  rw[F];refine d.lk B rfl ?_;cases hc:can T j (iw r)
  ·refine cF aA (w (Wog A (by simp[hc])))
  ·refine cJ aA ?_;refine aG (d.rB λcap=>d.rM B (nf O ?_));rw[F];refine d.sr B hc rfl λE e J=>?_;refine bZ (m:=j+1) O O (nn O (bZ (m:=j+1) O O (nn O ?_)));refine tI rfl O O ?_;refine bZ (m:=j+1) O O ⟨⟨j+1,r/2,del T j (iw r),rfl,?_,?_,J,P.trans e,?_,?_⟩,O⟩
   ·rw[ns,←tV,KH]
   ·-- both halves lie within
    have u:=ZX d.jK (ZR.1 hc).1;have X:r/2*2^(j+1)=(r/2*2)*2^j:=by rw[ns,Nat.mul_comm (2^j) 2,←xw]
    rw[X,ns];have g:(r/2*2)+1=r\/(r/2*2)+1=iw r:=by unfold iw;split<;>omega
    have U:(r/2*2)*2^j+2^j*2=((r/2*2)+1)*2^j+2^j:=by rw[zl];omega
    rw[U];rcases g with e4|e4<;>rw[e4]<;>assumption
   ·intro x F;rcases Hv.1 F with u|u
    ·simp[del,A x u]
    ·simp[del,u]
   ·rw[←y];refine tF λx=>?_;rw[VN,VN,VR,Hv];by_cases u:x/2^j=iw r
    ·simp[u,Vb hc u]
    ·simp[u]
 ·simp only at L;refine cF rfl (w λg=>?_);have:=ZX (LU d.jK z) g;have u:2^ms.length<=2^(j+1):=pA aB O;have:=d.hi;omega
theorem CT {a m:Nat}(h:BH σ p n S sb ms)(hf:a+m<=n)(hd:∀x,a<=x->x<a+m->S x=false){R:aP}
 (hR:∀σ',Ext (· ∈ ms) σ σ'->BH σ' p n (dK S a (a+m)) sb ms->R σ'):Yj.c (aW p) (a:Int) (m:Int) σ R:=by
 refine Yj.o ?_;have M:=h.n2;refine Kh (a:=bN) (bb:=bN)
  (λs c y=>∃(a' g:Nat),s=(a':Int)/\c=(g:Int)/\a<=a'/\a'+g=a+m/\BH y p n (dK S a a') sb ms/\Ext (· ∈ ms) σ y)
  (λ_ c _=>c.toNat) ⟨a,m,rfl,rfl,O,rfl,by rw[Nj];exact h,Ext.refl _ _⟩ ?_
 rintro s c y ⟨a',g,rfl,rfl,B,K,E,H⟩;refine cH (λF=>?_) (λV=>?_)
 ·refine ZP (a:=bN) (λk u=>∃j q:Nat,k=(j:Int)/\a'=q*2^j/\2^j<=g/\u=y) (λk _=>12-k.toNat) ⟨0,a',rfl,by simp,by simp;omega,rfl⟩ ?_;rintro k u ⟨j,q,rfl,J,L,rfl⟩;have U:j<=10:=by
   apply Classical.byContradiction;intro hc;have:2^11<=2^j:=pA aB O;omega
  refine bZ (m:=j+1) O O (nn O (bZ (m:=j+1) O O (nn O ?_)));refine tI rfl O O (bY.intro ?_);have r:(Zm.c (aW p) (j:Int) (a':Int) u λv3=>
   Nn (j:Int)<|Ar .i64 (1*2^(min (j:Int).toNat IntKind.i64.bits)) λD=>Ar .i64 ((a':Int)+D) λd=>
   Nn (j:Int)<|Ar .i64 (1*2^(min (j:Int).toNat IntKind.i64.bits)) λC=>Ar .i64 ((g:Int)-C) λb=>
   (∃(a'' m'':Nat),d=(a'':Int)/\b=(m'':Int)/\a<=a''/\a''+m''=a+m/\BH v3 p n (dK S a a'') sb ms/\Ext (· ∈ ms) σ v3)/\b.toNat<(g:Int).toNat):=by
   subst J;refine Wpz E O (λx Q=>?_) λv3 e w=>?_
   ·have:=Qh.1 Q;have N:=hd x O O;simp only[dK,N,yF];rw[zb (show ¬x<q*2^j by omega),sP]
   ·have A:=kY j;refine nf O (bZ (m:=q*2^j+2^j) O O (nf O (bZ (m:=g-2^j) O O ?_)));refine⟨⟨_,_,rfl,rfl,O,O,?_,H.trans e⟩,O⟩;rw[OK,Θ B O]at w;exact w
  refine cN (λG=>?_) (λG=>cF rfl r);have z:a'/2^(j+1)*2^(j+1)=a':=by
   have:=zZ.1 G
   exact_mod_cast this
  refine bZ (m:=j+1) O O (nf O ?_);refine cH (λP=>?_) λ_=>r;refine bZ (m:=j+1) O O ⟨⟨j+1,a'/2^(j+1),rfl,z.symm,O,rfl⟩,O⟩
 ·have:g=0:=by omega
  subst this;have:a'=a+m:=by omega
  subst this;exact hR y H E
theorem Io {a m:Nat}(h:BH σ p n S sb ms)(hf:a+m<=n)(hd:∀x,a<=x->x<a+m->S x=true){R:aP}
 (hR:∀σ',Ext (· ∈ ms) σ σ'->BH σ' p n (take S a (a+m)) sb ms->R σ'):Zy.c (aW p) (a:Int) (m:Int) σ R:=by
 refine Zy.o ?_;have Q:=h.n2;refine ZP (a:=bN) (λs w=>∃x:Nat,s=(x:Int)/\a<=x/\BH w p n (take S a (min x (a+m))) sb ms/\Ext (· ∈ ms) σ w)
  (λs _=>a+m-s.toNat) ⟨a,rfl,O,by rw[qN O,MD];exact h,Ext.refl _ _⟩ ?_
 rintro s w ⟨x,rfl,G,b,K⟩;refine bZ (m:=a+m) O O ?_;refine cH (λP=>?_) (λU=>?_)
 ·rw[qN O]at b;have Y:take S a x x=true:=Kq.2 ⟨hd x G O,O⟩;refine Ie b x O (λk q z L=>?_) (λg=>by rw[Y]at g;cases g);have H:=ZX b.jK (ZR.1 z).1;have V:=b.fits H;have hl:=b.len;obtain⟨mm,J⟩:=b.get V;have aa:=Qh.1 L;refine aG (b.rB λcap=>b.rM J ?_);refine b.sr J z rfl λh1 W F=>?_;refine nf O (bZ (m:=q*2^k+2^k) O O (bZ (m:=x-q*2^k) O O ?_));refine CT F O (λy B C=>?_) λh2 Z e=>?_
  ·have:y/2^k=q:=Qh.2 O;simp[del,this]
  ·have r:=(K.trans W).trans Z;rw[show q*2^k+(x-q*2^k)=x by omega]at e;have j:∀y,q*2^k<=y/\y<q*2^k+2^k->S y=true/\¬(a<=y/\y<x):=λy d=>Kq.1 (Vb z (Qh.2 d));refine bZ (m:=a+m) O O (cH (λM=>?_) λX=>?_)
   ·refine bZ (m:=q*2^k+2^k-(a+m)) O O ?_;refine CT e O (λy B C=>?_) λh3 N u=>?_
    ·have:y/2^k=q:=Qh.2 O;have D:¬y<x:=by omega
     simp[dK,del,this,D]
    ·refine⟨⟨_,rfl,O,?_,r.trans N⟩,O⟩;rw[Nat.min_eq_right O];have:dK (dK (del (take S a x) k q) (q*2^k) x) (a+m) (a+m+(q*2^k+2^k-(a+m)))=take S a (a+m):=by
      refine tF λy=>?_;have d:=j y;simp only[Kr,VR,Kq,Ne,Qh];generalize q*2^k=A at *;generalize 2^k=E at *;cases g:S y
      ·rw[g]at d;simp only[zc,false_and,false_or,iff_false,imp_false]at d ⊢;omega
      ·rw[g]at d;simp only[tU]at d ⊢;omega
     rw[this]at u;exact u
   ·refine⟨⟨_,rfl,O,?_,r⟩,O⟩;rw[qN O];have:dK (del (take S a x) k q) (q*2^k) x=take S a (q*2^k+2^k):=by
     refine tF λy=>?_;have d:=j y;simp only[Kr,VR,Kq,Ne,Qh];generalize q*2^k=A at *;generalize 2^k=E at *;cases g:S y
     ·rw[g]at d;simp only[zc,false_and,false_or,iff_false,imp_false]at d ⊢;omega
     ·rw[g]at d;simp only[tU]at d ⊢;omega
    rw[this]at e;exact e
 ·rw[Nat.min_eq_right O]at b;exact hR w K b
def qM (S:Nat->Bool)(a m:Nat):Bool:=(List.range m).all λi=>!S (a+i)
def iE (S:Nat->Bool)(a m:Nat):Bool:=(List.range m).all λi=>S (a+i)
theorem Vu {S:Nat->Bool}{a m:Nat}:qM S a m=true↔∀x,a<=x->x<a+m->S x=false:=by
 simp only[qM,kR,zW,nj];exact⟨λh x b e=>by have:=h (x-a) O;rwa [show a+(x-a)=x by omega]at this,λh i d=>h _ O O⟩
theorem Uc {S:Nat->Bool}{a m:Nat}:iE S a m=true↔∀x,a<=x->x<a+m->S x=true:=by
 simp only[iE,kR,zW];exact⟨λh x b e=>by have:=h (x-a) O;rwa [show a+(x-a)=x by omega]at this,λh i d=>h _ O O⟩
theorem Pg {S:Nat->Bool}{a m x:Nat}(h1:a<=x)(h2:x<a+m)(h:S x=true):qM S a m=false:=by
 cases e:qM S a m
 ·rfl
 ·rw[Vu.1 e x h1 h2]at h;cases h
theorem TN {S:Nat->Bool}{a m x:Nat}(h1:a<=x)(h2:x<a+m)(h:S x=false):iE S a m=false:=by
 cases e:iE S a m
 ·rfl
 ·rw[Uc.1 e x h1 h2]at h;cases h
def yi (n:Nat)(S:Nat->Bool)(a m:Int):Int:=if Zi n a m then(if qM S a.toNat m.toNat then 0 else 9)else 1
def QR (n:Nat)(S:Nat->Bool)(a m:Int):Nat->Bool:=if Zi n a m&&qM S a.toNat m.toNat then dK S a.toNat (a.toNat+m.toNat)else S
def rF (n:Nat)(S:Nat->Bool)(a m:Int):Int:=if Zi n a m then(if iE S a.toNat m.toNat then 0 else 4)else 1
def kc (n:Nat)(S:Nat->Bool)(a m:Int):Nat->Bool:=if Zi n a m&&iE S a.toNat m.toNat then take S a.toNat (a.toNat+m.toNat)else S
theorem Ig {n:Nat}{a m:Int}(h:Zi n a m=true):∃x y:Nat,a=(x:Int)/\m=(y:Int)/\1<=y/\x+y<=n:=by
 simp only[Zi,zF,zR]at h;exact⟨a.toNat,m.toNat,O,O,O,O⟩
theorem rD (h:BH σ p n S sb ms)(a m:Int){R:aN}
 (hR:∀σ',Ext (· ∈ ms) σ σ'->BH σ' p n (QR n S a m) sb ms->R (yi n S a m) σ'):Ys.c (aW p) a m σ R:=by
 refine Ys.o ?_;have E:=h.n2;refine IP h a m (λd=>cF rfl ?_) (λd=>cJ rfl ?_)
 ·obtain⟨x,y,rfl,rfl,H,s⟩:=Ig d;refine ZP (a:=bN) (λt w=>∃z:Nat,t=(z:Int)/\x<=z/\w=σ/\∀u,x<=u->u<z->S u=false) (λt _=>x+y-t.toNat) ⟨x,rfl,O,rfl,λu _ _=>O⟩ ?_;rintro t w ⟨z,rfl,B,rfl,g⟩;refine bZ (m:=x+y) O O ?_;refine cH (λD=>Fu h _ ?_) (λF=>?_)
  ·have e:mY S (z:Int)=S z:=by simp[mY]
   rw[e];cases hs:S z
   ·refine cF rfl (bZ (m:=z+1) O O ⟨⟨z+1,rfl,O,rfl,λu r C=>?_⟩,O⟩);by_cases e:u=z
    ·rw[e];exact hs
    ·exact g u r O
   ·refine cJ rfl ?_;have j:=Pg (m:=y) B O hs;have:=hR w (Ext.refl _ _);simp only[yi,QR,d,dC,j,sP,zV,zc,zz]at this;exact this h
  ·have b:∀u,x<=u->u<x+y->S u=false:=λu r C=>g u r O;have j:=Vu.2 b;refine CT h s b λr G A=>?_;have:=hR r G;simp only[yi,QR,d,dC,j,uG,zV]at this;exact this A
 ·have:=hR σ (Ext.refl _ _);simp only[yi,QR,d,sY,zc,zz]at this;exact this h
theorem ny (h:BH σ p n S sb ms)(a m:Int){R:aN}
 (hR:∀σ',Ext (· ∈ ms) σ σ'->BH σ' p n (kc n S a m) sb ms->R (rF n S a m) σ'):XA.c (aW p) a m σ R:=by
 refine XA.o ?_;have E:=h.n2;refine IP h a m (λd=>cF rfl ?_) (λd=>cJ rfl ?_)
 ·obtain⟨x,y,rfl,rfl,H,s⟩:=Ig d;refine ZP (a:=bN) (λt w=>∃z:Nat,t=(z:Int)/\x<=z/\w=σ/\∀u,x<=u->u<z->S u=true) (λt _=>x+y-t.toNat) ⟨x,rfl,O,rfl,λu _ _=>O⟩ ?_;rintro t w ⟨z,rfl,B,rfl,g⟩;refine bZ (m:=x+y) O O ?_;refine cH (λD=>Fu h _ ?_) (λF=>?_)
  ·have e:mY S (z:Int)=S z:=by simp[mY]
   rw[e];cases hs:S z
   ·refine cJ rfl ?_;have j:=TN (m:=y) B O hs;have:=hR w (Ext.refl _ _);simp only[rF,kc,d,dC,j,sP,zV,zc,zz]at this;exact this h
   ·refine cF rfl (bZ (m:=z+1) O O ⟨⟨z+1,rfl,O,rfl,λu r C=>?_⟩,O⟩);by_cases e:u=z
    ·rw[e];exact hs
    ·exact g u r O
  ·have b:∀u,x<=u->u<x+y->S u=true:=λu r C=>g u r O;have j:=Uc.2 b;refine Io h s b λr G A=>?_;have:=hR r G;simp only[rF,kc,d,dC,j,uG,zV]at this;exact this A
 ·have:=hR σ (Ext.refl _ _);simp only[rF,kc,d,sY,zc,zz]at this;exact this h
theorem NN {n:Nat}{S:Nat->Bool}(hb:Bounded S n)(K:Nat):kZ n S K<=n:=by
 rw[GR hb];exact zI uR aA
theorem rX (h:BH σ p n S sb ms){R:aN}(hR:R ((iX n S:Nat):Int) σ):Zp.c (aW p) σ R:=by
 refine Zp.o ?_;have r:=h.n2;have u:=h.len;refine yM h (cF rfl (aG (h.rB λcap=>?_)));refine Kh (a:=bN) (bb:=bN) (λc t g=>∃k:Nat,c=((kZ n S k:Nat):Int)/\t=(k:Int)/\k<=ms.length/\g=σ) (λ_ t _=>ms.length-t.toNat) ⟨0,rfl,rfl,O,rfl⟩ ?_;rintro c t g ⟨k,rfl,rfl,w,rfl⟩;have j:=NN h.jK (k+1);have s:kZ n S (k+1)=kZ n S k+many n S k*2^k:=rfl;refine cH (λb=>?_) (λd=>?_)
 ·simp only at b;obtain⟨m,e⟩:=h.get (k:=k) O;refine h.rM e (h.ln e (nn O (EJ O O ?_)));refine bZ (m:=kZ n S (k+1)) O O (bZ (m:=k+1) O O ⟨⟨k+1,rfl,rfl,O,rfl⟩,O⟩)
 ·simp only at d;have:k=ms.length:=by omega
  subst this;rw[Wlj h.jK h.hi];exact hR
end Go.Bu
namespace Go.Ar
open Go.Bu
def ux (n:Nat)(h:Int):Bool:=decide (0<=h)&&decide (h<((n/16:Nat):Int))
def lh (st:List Nat)(h:Int):Int:=if ux st.length h then(if st.getD (16*h.toNat) 0=0 then 0 else 5)else 1
def jn (st:List Nat)(h:Int):List Nat:=if lh st h=0 then fZ st (16*h.toNat) (16*h.toNat+16) 3 else st
def vN (st:List Nat)(h:Nat):Bool:=st.getD (16*h) 0 != 0&&gB st (16*h) (16*h+16) 1==0
def lQ (st:List Nat)(h:Int):Int:=if ux st.length h then(if vN st h.toNat then 0 else 5)else 1
def jP (st:List Nat)(h:Int):List Nat:=if lQ st h=0 then fZ st (16*h.toNat) (16*h.toNat+16) 0 else st
def vX (st:List Nat)(a m:Nat)(fr:List Nat):Bool:=((st.drop a).take m).all fr.contains
def G9 (st:List Nat)(a m:Int)(fr:List Nat):Int:=if Zi st.length a m then(if vX st a.toNat m.toNat fr then 0 else 5)else 1
def VX (st:List Nat)(a m:Int)(v:Nat)(fr:List Nat):List Nat:=if G9 st a m fr=0 then fZ st a.toNat (a.toNat+m.toNat) v else st
def KX (st:List Nat)(h:Nat):Nat:=if gB st (16*h) (16*h+16) 1=0 then 0 else if 0<gB st (16*h) (16*h+16) 3 then 1 else 2
def Ks (st:List Nat)(k:Nat):List Nat:=(List.range (st.length/16)).filter λh=>st.getD (16*h) 0 != 0&&KX st h==k
def used (st:List Nat)(h:Nat):Nat:=gB st (16*h) (16*h+16) 1
def yJ (st:List Nat)(g h:Nat):Bool:=
 decide (KX st g<KX st h)||(KX st g==KX st h&&(decide (used st g<used st h)||(used st g==used st h&&decide (h<g))))
def nA (st:List Nat)(l:List Nat)(h:Nat):List Nat:=l.takeWhile (λg=>yJ st g h)++h::l.dropWhile (λg=>yJ st g h)
def eP (st:List Nat):List Nat:=((List.range (st.length/16)).filter λh=>0<gB st (16*h) (16*h+16) 2).foldl (nA st) []
def gA (st:List Nat)(p m:Nat):Nat:=(((st.drop p).take m).takeWhile (· == 2)).length
def Q5 (st:List Nat)(e:Nat):Nat->Nat->List (Nat×Nat)
 | 0,_=>[]
 | f+1,p=>if e<=p then[]else if gA st p (e-p)=0 then Q5 st e f (p+1)else(p,gA st p (e-p))::Q5 st e f (p+gA st p (e-p)+1)
def KU (st:List Nat)(h:Nat):List (Nat×Nat):=Q5 st (16*h+16) 17 (16*h)
def gP (want:Int):Nat->List (Nat×Nat)->List (Nat×Nat)
 | _,[]=>[]
 | p,r::rs=>if want<=(p:Int)then[]else r::gP want (p+r.2) rs
def HE (st:List Nat)(want:Int):List (Nat×Nat):=gP want 0 ((eP st).flatMap (KU st))
structure Sp where
 st:List Nat
 wd:Nat->Int
 pk:Nat
def Sp.set (s:Sp)(a m v:Nat):Sp:={s with st:=fZ s.st a (a+m) v,wd:=λw=>if a*32<=w/\w<(a+m)*32 then 0 else s.wd w}
def yA (st:List Nat)(a m v:Nat):Bool:=((st.drop a).take m).contains v
def fI (s:Sp)(a m:Int):Int:=if Zi s.st.length a m then(if((s.st.drop a.toNat).take m.toNat).any (· != 0)then 5 else 0)else 1
def gF (s:Sp)(a m:Int):Sp:=if fI s a m=0 then s.set a.toNat m.toNat 1 else s
def fF (s:Sp)(a m:Int):Int:=if Zi s.st.length a m then(if yA s.st a.toNat m.toNat 0 then 7 else 0)else 1
def dX (s:Sp)(a m:Int)(v:Nat):Sp:=if fF s a m=0 then s.set a.toNat m.toNat v else s
def gX (s:Sp)(x:Int):Int:=if x<0\/x%8≠0 then 7 else if s.st.getD (x.toNat/256) 0=0 then 7 else 0
def oB (s:Sp)(w:Nat)(v:Int):Sp:=
 {st:=s.st.set (w/32) 2,wd:=λu=>if u=w then v else s.wd u,pk:=if s.st.getD (w/32) 0=2 then s.pk else max s.pk ((s.st.set (w/32) 2).count 2)}
def U4 (s:Sp)(x v:Int):Sp:=if gX s x=0 then oB s (x.toNat/8) v else s
end Go.Ar
namespace Go.Ar
structure Li where
 os:List Int
 lim:Nat
 low:Nat
 deriving DecidableEq
def iD:Li:=⟨[],1,0⟩
structure fT (l:Li):Prop where
 low:l.low<=l.os.length
 many:l.os.length<=256
 lim:l.lim<=128
 oK:1<=l.lim
def gS (m:Nat)(l:Li):List Int×Li:=(l.os.take m,{l with os:=l.os.drop m,low:=min l.low (l.os.length-m)})
def nC (c:bX)(l:Li):Li:=if l.lim<c.batch then{l with lim:=l.lim+1}else l
def Kj (c:bX)(l:Li):Option Int×Li:=match l.os.getLast? with
 | none=>(none,if l.lim<c.batch then{l with lim:=l.lim+1}else{l with lim:=min (l.lim+c.batch) 128})
 | some x=>(some x,{l with os:=l.os.dropLast,low:=min l.low (l.os.length-1)})
def p8 (c:bX)(l:Li):Nat:=min l.lim c.batch
def eO (xs:List Int)(l:Li):Li:=if l.os.length+xs.length>256 then l else{l with os:=l.os++xs}
def dS (c:bX)(x:Int)(l:Li):List Int×Li:=
 if l.os.length+1>256 then([],l)
 else if l.os.length+1<=l.lim then([],eO [x] l)
 else gS (min c.batch (l.os.length+1)) (nC c (eO [x] l))
def KQ (c:bX)(l:Li):List Int×Li:=
 ((gS ((l.low+1)/2) l).1,{os:=(gS ((l.low+1)/2) l).2.os,lim:=if l.lim>c.batch then max (l.lim-c.batch) c.batch else l.lim,low:=(gS ((l.low+1)/2) l).2.os.length})
def Z2 (_:bX)(l:Li):List Int×Li:=gS l.os.length l
abbrev Bt:=Nat×List Int
def Ki (f:bX->Li->List Int×Li)(tb:List bX)(ls:List Li):List Bt:=(List.range tb.length).filterMap λk=>match tb[k]?,ls[k]? with
 | some c,some l=>if(f c l).1=[]then none else some (k,(f c l).1)
 | _,_=>none
def Kg (f:bX->Li->List Int×Li)(tb:List bX)(ls:List Li):List Li:=List.zipWith (λc l=>(f c l).2) tb ls
def QB (tb:List bX)(ls:List Li):Nat:=((tb.zip ls).map λx=>x.1.size*x.2.os.length).sum
theorem fT.nil:fT iD:=⟨zC _,by decide,by decide,by decide⟩
theorem yu {m:Nat}{l:Li}(h:fT l):fT (gS m l).2:=by
 have b:=h.low;have a:=h.many;refine⟨?_,?_,h.lim,h.oK⟩
 ·simp only[gS,zt];omega
 ·simp only[gS,zt];omega
theorem IT {c:bX}{l:Li}(hc:c.ok)(h:fT l):fT (Kj c l).2:=by
 have b:=h.low;have a:=h.many;have d:=h.lim;have e:=h.oK;unfold bX.ok at hc;unfold Kj;split
 ·split
  ·exact⟨b,a,by simp only;omega,by simp only;omega⟩
  ·exact⟨b,a,by simp only;omega,by simp only;omega⟩
 ·exact⟨by simp only[Cd];omega,by simp only[Cd];omega,d,e⟩
theorem An {xs:List Int}{l:Li}(h:fT l):fT (eO xs l):=by
 have b:=h.low;have a:=h.many;unfold eO;split
 ·exact h
 ·exact⟨by simp only[zJ];omega,by simp only[zJ];omega,h.lim,h.oK⟩
theorem LP {c:bX}{l:Li}(hc:c.ok)(h:fT l):fT (nC c l):=by
 have a:=h.lim;unfold bX.ok at hc;unfold nC;split
 ·exact⟨h.low,h.many,by simp only;omega,by simp only;omega⟩
 ·exact h
theorem O7 {c:bX}{x:Int}{l:Li}(hc:c.ok)(h:fT l):fT (dS c x l).2:=by
 unfold dS;split
 ·exact h
 ·split
  ·exact An h
  ·exact yu (LP hc (An h))
theorem L5 {c:bX}{l:Li}(hc:c.ok)(h:fT l):fT (KQ c l).2:=by
 have a:=(yu (m:=(l.low+1)/2) h).many;have b:=h.lim;have d:=h.oK;unfold bX.ok at hc;refine⟨zC _,a,?_,?_⟩<;>simp only[KQ]<;>split<;>omega
theorem TR {c:bX}{l:Li}(h:fT l):fT (Z2 c l).2:=yu h
theorem RK (c:bX)(hc:c.ok):KQ c iD=([],iD):=by
 unfold bX.ok at hc;simp[KQ,iD,gS];omega
theorem No (c:bX):Z2 c iD=([],iD):=by simp[Z2,iD,gS]
def fU.rem (t:fU):fU:={low:=min t.low (t.bs.length-1),bs:=t.bs.dropLast}
def fU.tick (t:fU):fU:={low:=(t.bs.drop ((t.low+1)/2)).length,bs:=t.bs.drop ((t.low+1)/2)}
def fU.out (t:fU):List (List Int):=t.bs.take ((t.low+1)/2)
end Go.Ar
namespace Go.Proofs
open Go.Vc
set_option maxRecDepth 100000
def Zq.h:Hn:=.q .o1 (.q (.q (.cV (.seq [.op,.op,.op,.op,.dA false 2 [.op,.op],.op,.dA false 2 [.op,.op]])) .aK) (.q .o9 (.q (.q (.cV (.seq [.op,.op,.op,.dA false 8 (RI.ops 8)])) .aK) (.q (.o 13) .l))))
theorem Zq.o {a:R2}{b:Int}{c:Hp}{d:aN}(e:XQ.c a c λe f=>bY (λg h=>bY (λi j=>If i (d 0 j) (Nz 8<|bL (b.tdiv 8) λk=>Nz 8<|bL (k.tdiv 8) λl=>bQ a λm=>pn (m.add 1) 16 l 1 λn=>fX n j λo=>bY (λp q=>If p (d 0 q) (Nz 8<|bL (b.tdiv 8) λr=>Nz 8 <| bQ o λs=>pn s 8 (r.tmod 8) 1 λt=>fX t q λu=>Nz 8 <| bQ u λv=>pn v 8 (b.tmod 8) 1 λw=>bM w q λx=>d x q)) λy=>If o.isNone (y true j) (Nz 8<|bL (b.tdiv 8) λz=>Nz 8 <| bQ o λaa=>pn aa 8 (z.tmod 8) 1 λab=>fX ab j λac=>y ac.isNone j))) λad=>If g (ad true h) (ad (decide (b≥1024)) h)) λae=>If (!e) (ae true f) (ae (decide (b<0)) f)):Zq.c a b c d:=Wa Tryz.func114 (x:=Zq.h) (R0 e)
def XQ.h:Hn:=.q .o1 (.q (.cV (.seq [.op,.op,.op,.dA true 4 (RI.ops 4),.op])) .l)
theorem XQ.o {a:R2}{b:Hp}{c:aO}(d:bY (λd e=>c d e) λf=>If (!a.isNone) (bG a 0 b λh=>f h b) (f false b)):XQ.c a b c:=Wa Tryz.func144 (x:=XQ.h) (R0 d)
def Qm.h:Hn:=.q .o1 (.q .o3 .l)
theorem Qm.o {a:Hp}{b:Option Addr->Hp->Prop}(c:aV #[.bool true,.pointer none,.pointer none,.pointer none,.pointer none,.pointer none,.pointer none,.pointer none,.pointer none,.pointer none,.pointer none,.pointer none,.pointer none,.pointer none,.pointer none,.pointer none,.pointer none] 223 a λc d=>b (some c) d):Qm.c a b:=Wa Tryz.func150 (x:=Qm.h) (R0 c)
def YX.h:Hn:=.q .o1 (.q (.k (.q .o4 (.c .aM (.q (.cV (.seq [.op,.op,.op,.dA false 2 [.op,.op],.op,.dA false 2 [.op,.op],.op,.dA false 4 (RI.ops 4),.op])) .aK)))) (.q (.q .o2 (.k (.loop [(9,.I)] (.q (.q .o5 (.c .l .l)) (.q (.k .o4) .o3))))) .aM))
theorem YX.o {a:R2}{b c d:Int}{e:Hp}{f:aN}(g:XQ.c a e λg h=>If (!g) (f 5 h) (bY (λi j=>bY (λk l=>bY (λm n=>If m (f 1 n) (WR [bN] (λo=>o b n) λp (q:Int) r=>bL (b+c) λs=>If (q<s) (Zu.c a q d r λt=>bL (q+1) λu=>p u t) (f 0 r))) λv=>If k (v true l) (bL (1024-b) λw=>v (decide (c>w)) l)) λx=>If i (x true j) (x (decide (b>1024)) j)) λy=>If (b<0) (y true h) (y (decide (c<1)) h))):YX.c a b c d e f:=Wa Tryz.func152 (x:=YX.h) (R0 g)
def Zu.h:Hn:=.q .o9 (.q .o8 (.q .o7 (.jc [] (.q .o5 (.c .o7 .l)) (.q .o5 (.c .o8 .l)))))
theorem Zu.o {a:R2}{b c:Int}{d:Hp}{e:aP}(f:Nz 8<|bL (b.tdiv 8) λf=>Nz 8<|bL (f.tdiv 8) λg=>bQ a λh=>pn (h.add 1) 16 g 1 λi=>Ww.c (some i) d λj k=>Nz 8<|bL (b.tdiv 8) λl=>Nz 8 <| bQ j λm=>pn m 8 (l.tmod 8) 1 λn=>Wy.c (some n) k λo p=>Nz 8 <| bQ o λq=>pn q 8 (b.tmod 8) 1 λr=>dG r (.I c) p λs=>Jn [] (λt=>bQ j λu=>aY u 0 t λv=>aY u 1 t λw=>aY u 2 t λx=>aY u 3 t λy=>aY u 4 t λz=>aY u 5 t λaa=>aY u 6 t λab=>aY u 7 t λac=>If (v.isNone&&(w.isNone&&(x.isNone&&(y.isNone&&(z.isNone&&(aa.isNone&&(ab.isNone&&(ac.isNone&&true)))))))) (Nz 8<|bL (b.tdiv 8) λad=>Nz 8<|bL (ad.tdiv 8) λae=>bQ a λaf=>pn (af.add 1) 16 ae 1 λag=>dG ag (.pointer none) t λah=>e ah) (e t)) λai=>bQ o λaj=>aQ aj 0 s λak=>aQ aj 1 s λal=>aQ aj 2 s λam=>aQ aj 3 s λan=>aQ aj 4 s λao=>aQ aj 5 s λap=>aQ aj 6 s λaq=>aQ aj 7 s λar=>If ((ak==0)&&((al==0)&&((am==0)&&((an==0)&&((ao==0)&&((ap==0)&&((aq==0)&&((ar==0)&&true)))))))) (Nz 8<|bL (b.tdiv 8) λau=>Nz 8 <| bQ j λav=>pn av 8 (au.tmod 8) 1 λaw=>dG aw (.pointer none) s λax=>ai ax) (ai s)):Zu.c a b c d e:=Wa Tryz.func204 (x:=Zu.h) (R0 f)
def XY.h:Hn:=.q .o1 (.q .o5 .l)
theorem XY.o {a:R2}{b c:Int}{d:Hp}{e:aN}(f:YX.c a b c 0 d λf g=>e f g):XY.c a b c d e:=Wa Tryz.func224 (x:=XY.h) (R0 f)
def Ww.h:Hn:=.q .o1 (.jc [] (.q .o4 (.c .o4 .l)) (.q .o4 .l))
theorem Ww.o {a:R2}{b:Hp}{c:Option Addr->Hp->Prop}(d:Jn [] (λd=>bQ a λe=>fX e d λf=>c f d) λg=>bQ a λh=>fX h b λi=>If i.isNone (aV #[.pointer none,.pointer none,.pointer none,.pointer none,.pointer none,.pointer none,.pointer none,.pointer none] 329 b λj k=>bQ a λl=>dG l (.pointer (some j)) k λm=>g m) (g b)):Ww.c a b c:=Wa Tryz.func247 (x:=Ww.h) (R0 d)
def Wy.h:Hn:=.q .o1 (.jc [] (.q .o4 (.c .o4 .l)) (.q .o4 .l))
theorem Wy.o {a:R2}{b:Hp}{c:Option Addr->Hp->Prop}(d:Jn [] (λd=>bQ a λe=>fX e d λf=>c f d) λg=>bQ a λh=>fX h b λi=>If i.isNone (aV #[.I 0,.I 0,.I 0,.I 0,.I 0,.I 0,.I 0,.I 0] 333 b λj k=>bQ a λl=>dG l (.pointer (some j)) k λm=>g m) (g b)):Wy.c a b c:=Wa Tryz.func248 (x:=Wy.h) (R0 d)
def Yu.h:Hn:=.q .o1 (.q (.q (.cV (.seq [.op,.op,.op,.dA true 6 [.op,.op,.op,.dA false 2 [.op,.op]]])) .aK) (.q .o6 .l))
theorem Yu.o {a:R2}{b c d:Int}{e:Hp}{f:aN}(g:XQ.c a e λg h=>bY (λi j=>If i (f 1 j) (YX.c a b c d j λk l=>f k l)) λm=>If g (bY (λn o=>m n o) λp=>If (d<1) (p true h) (p (decide (d>1073741824)) h)) (m false h)):Yu.c a b c d e f:=Wa Tryz.func255 (x:=Yu.h) (R0 g)
end Go.Proofs
namespace Go.Ar
open Go Go.Vc Go.Proofs
open Go.Bu (Zi)
variable {σ:Hp}{F:Rg}{p:Nat}{M Lf:Nat->Option Nat}{ow:Nat->Nat}
def fQ {α:Type}(f:Nat->α)(k:Nat)(v:α):Nat->α:=λi=>if i=k then v else f i
theorem ZT {α:Type}(f:Nat->α)(k:Nat)(v:α):fQ f k v k=v:=by simp[fQ]
theorem Qz {α:Type}(f:Nat->α){k i:Nat}(v:α)(h:i≠k):fQ f k v i=f i:=by simp[fQ,h]
theorem Kv {α:Type}(f:Nat->α)(n k:Nat)(v:α):((List.range n).map f).set k v=(List.range n).map (fQ f k v):=by
 apply zp;intro i;by_cases hik:i=k
 ·subst hik;rcases mw i n with h|h
  ·rw[zM (by simpa using h)];simp[oR h,fQ]
  ·rw[zX (by simpa using h),zX (by simpa using h)]
 ·rw[zj (Ne.symm hik)];simp only[ze];rcases mw i n with h|h
  ·simp[oR h,fQ,hik]
  ·simp[zX (show(List.range n).length<=i by simpa using h)]
theorem Ku {α:Type}(f:Nat->α){n k:Nat}(h:k<n):((List.range n).map f)[k]?=some (f k):=by simp[oR h]
def ptr (o:Option Nat):Value:=.pointer (o.map λq=>⟨q,0,none⟩)
structure ku (σ:Hp) (F:Rg) (p:Nat) (M Lf:Nat->Option Nat) (ow:Nat->Nat):Prop where
 hd:bW σ p (.bool true::(List.range 16).map λi=>ptr (M i))
 jI:∀i q,i<16->M i=some q->bW σ q ((List.range 8).map λj=>ptr (Lf (8*i+j)))
 l9:∀i,i<16->M i=none->∀j,j<8->Lf (8*i+j)=none
 leaf:∀k q,k<128->Lf k=some q->bW σ q ((List.range 8).map λj=>.int .i64 ((ow (8*k+j):Nat):Int))
 jb:∀k,k<128->Lf k=none->∀j,j<8->ow (8*k+j)=0
 fp:F p
 fm:∀i q,i<16->M i=some q->F q/\q≠p
 fl:∀k q,k<128->Lf k=some q->F q/\q≠p
 mm:∀i j q,i<16->j<16->M i=some q->M j=some q->i=j
 ll:∀i j q,i<128->j<128->Lf i=some q->Lf j=some q->i=j
 ml:∀i k q,i<16->k<128->M i=some q->Lf k≠some q
def jH (σ:Hp)(F:Rg)(p:Nat)(ow:Nat->Nat):Prop:=∃M Lf,ku σ F p M Lf ow
theorem ku.move {σ':Hp}{G:Rg}(h:ku σ F p M Lf ow)(hb:∀b,b<σ.size->F b->σ'[b]?=σ[b]?)(hg:∀b,b<σ.size->F b->G b):ku σ' G p M Lf ow:=by
 have j:∀{b:Nat} {cs:List Value},bW σ b cs->F b->bW σ' b cs:=by
  rintro b cs ⟨e,m⟩ r;exact⟨e,(hb b (bW.lt ⟨e,m⟩) r).trans m⟩
 exact⟨j h.hd h.fp,λi q d a=>j (h.jI i q d a) (h.fm i q d a).1,h.l9,λk q g a=>j (h.leaf k q g a) (h.fl k q g a).1,h.jb,hg p h.hd.lt h.fp,
  λi q d a=>⟨hg q (h.jI i q d a).lt (h.fm i q d a).1,(h.fm i q d a).2⟩,λk q g a=>⟨hg q (h.leaf k q g a).lt (h.fl k q g a).1,(h.fl k q g a).2⟩,h.mm,h.ll,h.ml⟩
theorem jH.loc:dR λσ F=>jH σ F p ow:=λσ i F G ⟨M,Lf,h⟩ g e=>⟨M,Lf,h.move (λb d a=>(e b d a).2) λb d a=>(e b d a).1⟩
theorem jH.congr {ow':Nat->Nat}(h:jH σ F p ow)(he:∀x,x<1024->ow x=ow' x):jH σ F p ow':=by
 obtain⟨M,Lf,h⟩:=h;refine⟨M,Lf,h.hd,h.jI,h.l9,λk q d b=>?_,λk d b j a=>?_,h.fp,h.fm,h.fl,h.mm,h.ll,h.ml⟩
 ·have:=h.leaf k q d b;have e:((List.range 8).map λj=>Value.int .i64 ((ow (8*k+j):Nat):Int))=(List.range 8).map λj=>Value.int .i64 ((ow' (8*k+j):Nat):Int):=by
   apply kA;intro j a;rw[zW]at a;rw[he _ O]
  rw[←e];exact this
 ·rw[←he _ O];exact h.jb k d b j a
theorem CE (h:jH σ F p ow){R:aO}(hR:R true σ):XQ.c (aW p) σ R:=by
 refine XQ.o ?_;obtain⟨M,Lf,h⟩:=h;exact bY.intro (cJ rfl (aG (h.hd.rB rfl hR)))
theorem rm {a:Addr}{n i sz:Nat}{K:Addr->Prop}(hi:i<n)(hK:K (a.add (i*sz))):pn a n (i:Int) sz K:=⟨O,O,by simpa using hK⟩
theorem ku.rM (h:ku σ F p M Lf ow){i:Nat}(hi:i<16){K:Option Addr->Prop}(hK:K ((M i).map λq=>⟨q,0,none⟩)):fX ⟨p,1+i,none⟩ σ K:=by
 refine h.hd.vo ?_ hK;rw[Nat.add_comm,AP,Ku _ hi];rfl
theorem ku.rL (h:ku σ F p M Lf ow){i j q:Nat}(hi:i<16)(hq:M i=some q)(hj:j<8){K:Option Addr->Prop}(hK:K ((Lf (8*i+j)).map λq=>⟨q,0,none⟩)):fX ⟨q,j,none⟩ σ K:=
 (h.jI i q hi hq).vo (Ku _ hj) hK
theorem ku.rN (h:ku σ F p M Lf ow){k j q:Nat}(hk:k<128)(hq:Lf k=some q)(hj:j<8){K:Int->Prop}(hK:K ((ow (8*k+j):Nat):Int)):eW .i64 ⟨q,j,none⟩ σ K:=
 (h.leaf k q hk hq).we (Ku _ hj) hK
def qW (ow:Nat->Nat)(x:Int):Nat:=if 0<=x/\x<1024 then ow x.toNat else 0
theorem Oy (h:jH σ F p ow)(x:Int){R:aN}(hR:R ((qW ow x:Nat):Int) σ):Zq.c (aW p) x σ R:=by
 refine Zq.o ?_;have z:=h;obtain⟨M,Lf,h⟩:=h;refine CE z (bY.intro (cF rfl (bY.intro (cH (λu=>cJ rfl ?_) λu=>?_))))
 ·have:qW ow x=0:=by unfold qW;rw[zA O]
  rw[this]at hR;exact hR
 refine cH (λw=>?_) λs=>?_
 ·have:qW ow x=0:=by unfold qW;rw[zA O]
  rw[this]at hR;exact hR
 obtain⟨y,rfl⟩:=zk (show 0<=x by omega);have A:y<1024:=by omega
 have i:qW ow (y:Int)=ow y:=by unfold qW;rw[zB O];rfl
 rw[i]at hR;have b:((y:Int).tdiv 8)=((y/8:Nat):Int):=by rw[Xq O];simp
 have m:(((y/8:Nat):Int).tdiv 8)=((y/8/8:Nat):Int):=by rw[Xq O];simp
 have e:(((y/8:Nat):Int).tmod 8)=((y/8%8:Nat):Int):=by rw[Q4 O];simp
 have j:((y:Int).tmod 8)=((y%8:Nat):Int):=by rw[Q4 O];simp
 have d:8*(y/8/8)+y/8%8=y/8:=by omega
 have a:8*(y/8)+y%8=y:=by omega
 refine nz aB (bZ b O (nz aB (bZ m O (aG ?_))));refine rm O ?_;rw[add_lit,add_lit,zG,m9];refine h.rM O (bY.intro ?_);cases hM:M (y/8/8)with
 | none=>
  refine cJ rfl (cJ rfl ?_);have g:=h.l9 _ O hM (y/8%8) O;rw[d]at g;have:=h.jb _ O g (y%8) O;rw[a]at this;rw[this]at hR;exact hR
 | some q=>
  refine cF rfl (nz aB (bZ b O (nz aB (aG ?_))));rw[e];refine rm O ?_;rw[add_lit,zG,m9];refine h.rL O hM O ?_;rw[d];cases hL:Lf (y/8)with
  | none=>
   refine cJ rfl ?_;have:=h.jb _ O hL (y%8) O;rw[a]at this;rw[this]at hR;exact hR
  | some r=>
   refine cF rfl (nz aB (bZ b O (nz aB (aG ?_))));rw[e];refine rm O ?_;rw[add_lit,zG,m9];refine h.rL O hM O ?_;rw[d,hL];refine nz aB (aG ?_);rw[j];refine rm O ?_;rw[add_lit,zG,m9];refine h.rN O hL O ?_;rw[a];exact hR
theorem Wny {R:Option Addr->Hp->Prop}(hR:∀σ' p,bO σ σ'->σ.size<=p->jH σ' (λb=>σ.size<=b) p (λ_=>0)->R (some ⟨p,0,none⟩) σ'):Qm.c σ R:=by
 refine Qm.o ?_;refine nw (cs:=[.bool true,.pointer none,.pointer none,.pointer none,.pointer none,.pointer none,.pointer none,.pointer none,.pointer none,.pointer none,.pointer none,.pointer none,.pointer none,.pointer none,.pointer none,.pointer none,.pointer none]) λv d e a=>?_;refine hR v _ e (zC _) ⟨λ_=>none,λ_=>none,a,?_,?_,?_,?_,zC _,?_,?_,?_,?_,?_⟩<;>intros<;>simp_all
theorem R8 (h:ku σ F p M Lf ow){i:Nat}(hi:i<16){R:Option Addr->Hp->Prop}
 (hR:∀σ' M' q,Ext F σ σ'->M' i=some q->ku σ' (Grow F σ) p M' Lf ow->R (some ⟨q,0,none⟩) σ'):Ww.c (some ⟨p,1+i,none⟩) σ R:=by
 refine Ww.o ?_;refine Jn.intro (aG (h.rM hi ?_));cases hM:M i with
 | some q=>exact cF rfl (aG (h.rM hi (by rw[hM];exact hR σ M q (Ext.refl _ _) hM (h.move (λ_ _ _=>rfl) λ_ _ C=>.inl C))))
 | none=>
  refine cJ rfl (nw (cs:=[.pointer none,.pointer none,.pointer none,.pointer none,.pointer none,.pointer none,.pointer none,.pointer none]) λD G A w=>aG ?_);have E:=h.hd.lt;refine(A.cA h.hd id).s0 aE λz o2 u=>?_;have r:(Value.bool true::(List.range 16).map λi=>ptr (M i)).set (1+i) (.pointer (some ⟨σ.size,0,none⟩))=.bool true::(List.range 16).map λj=>ptr (fQ M i (some σ.size) j):=by
   rw[Nat.add_comm,sK,Kv]
   congr 1
   apply kA;intro j _;simp only[fQ];split<;>rfl
  rw[r]at u;have s:∀{b:Nat} {cs:List Value},bW σ b cs->b≠p->bW z b cs:=λx y=>Wp o2 (A.cA x id) y;have B:ku z (Grow F σ) p (fQ M i (some σ.size)) Lf ow:=by
   refine⟨u,λj q e a=>?_,λj e a=>?_,λk q d a=>s (h.leaf k q d a) (h.fl k q d a).2,h.jb,.inl h.fp,λj q e a=>?_,λk q d a=>⟨.inl (h.fl k q d a).1,(h.fl k q d a).2⟩,λj k q e d m g=>?_,h.ll,λj k q e d a=>?_⟩
   ·by_cases hji:j=i
    ·subst hji;rw[ZT]at a;cases a;have y:=h.l9 j e hM;have:((List.range 8).map λk=>ptr (Lf (8*j+k)))=[.pointer none,.pointer none,.pointer none,.pointer none,.pointer none,.pointer none,.pointer none,.pointer none]:=by
      have:((List.range 8).map λk=>ptr (Lf (8*j+k)))=(List.range 8).map λ_=>Value.pointer none:=by
       apply kA;intro k d;rw[zW]at d;rw[y k d];rfl
      rw[this];rfl
     rw[this];exact Wp o2 w O
    ·rw[Qz _ _ hji]at a;exact s (h.jI j q e a) (h.fm j q e a).2
   ·by_cases hji:j=i
    ·subst hji;rw[ZT]at a;cases a
    ·rw[Qz _ _ hji]at a;exact h.l9 j e a
   ·by_cases hji:j=i
    ·subst hji;rw[ZT]at a;cases a;exact⟨.inr (zC _),O⟩
    ·rw[Qz _ _ hji]at a;exact⟨.inl (h.fm j q e a).1,(h.fm j q e a).2⟩
   ·by_cases hji:j=i
    ·by_cases hki:k=i
     ·omega
     ·subst hji;rw[ZT]at m;cases m;rw[Qz _ _ hki]at g;have:=(h.jI k _ d g).lt;omega
    ·rw[Qz _ _ hji]at m;by_cases hki:k=i
     ·subst hki;rw[ZT]at g;cases g;have:=(h.jI j _ e m).lt;omega
     ·rw[Qz _ _ hki]at g;exact h.mm j k q e d m g
   ·by_cases hji:j=i
    ·subst hji;rw[ZT]at a;cases a;intro hl;have:=(h.leaf k _ d hl).lt;omega
    ·rw[Qz _ _ hji]at a;exact h.ml j k q e d a
  refine aG (B.rM hi ?_);rw[ZT];exact hR z _ σ.size (A.to.trans (o2.ext.sub λb x=>x▸h.fp)) (ZT _ _ _) B
theorem RX (h:ku σ F p M Lf ow){i j q:Nat}(hi:i<16)(hj:j<8)(hq:M i=some q){R:Option Addr->Hp->Prop}
 (hR:∀σ' L' r,Ext F σ σ'->L' (8*i+j)=some r->ku σ' (Grow F σ) p M L' ow->R (some ⟨r,0,none⟩) σ'):Wy.c (some ⟨q,j,none⟩) σ R:=by
 refine Wy.o ?_;have U:8*i+j<128:=by omega
 refine Jn.intro (aG (h.rL hi hq hj ?_));cases hL:Lf (8*i+j)with
 | some r=>exact cF rfl (aG (h.rL hi hq hj (by rw[hL];exact hR σ Lf r (Ext.refl _ _) hL (h.move (λ_ _ _=>rfl) λ_ _ E=>.inl E))))
 | none=>
  refine cJ rfl (nw (cs:=[.int .i64 0,.int .i64 0,.int .i64 0,.int .i64 0,.int .i64 0,.int .i64 0,.int .i64 0,.int .i64 0]) λW X P K=>aG ?_);have S:=h.jI i q hi hq;have V:=S.lt;have E:=h.fm i q hi hq;refine(P.cA S id).s0 aE λN o2 z=>?_;have y:∀{b:Nat} {cs:List Value},bW σ b cs->b≠q->bW N b cs:=λL J=>Wp o2 (P.cA L id) J;have Q:ku N (Grow F σ) p M (fQ Lf (8*i+j) (some σ.size)) ow:=by
   refine⟨y h.hd (Ne.symm E.2),λm x g a=>?_,λm g a C H=>?_,λk r d s=>?_,λk d s=>?_,.inl h.fp,λm x g a=>⟨.inl (h.fm m x g a).1,(h.fm m x g a).2⟩,λk r d s=>?_,h.mm,λk G r D A w u=>?_,λm k x g d a=>?_⟩
   ·by_cases hii:m=i
    ·subst hii;rw[hq]at a;cases a;rw[Kv]at z;have:((List.range 8).map (fQ (λj=>ptr (Lf (8*m+j))) j (.pointer (some ⟨σ.size,0,none⟩))))=(List.range 8).map λk=>ptr (fQ Lf (8*m+j) (some σ.size) (8*m+k)):=by
      apply kA;intro k _;simp only[fQ];by_cases hkj:k=j
      ·subst hkj;simp[ptr]
      ·have:¬8*m+k=8*m+j:=by omega
       simp[hkj,this]
     rw[this]at z;exact z
    ·have B:x≠q:=λe=>by subst e;exact hii (h.mm m i x g hi a hq)
     have:=y (h.jI m x g a) B;have e:((List.range 8).map λk=>ptr (fQ Lf (8*i+j) (some σ.size) (8*m+k)))=(List.range 8).map λk=>ptr (Lf (8*m+k)):=by
      apply kA;intro k d;rw[zW]at d;rw[Qz _ _ O]
     rw[e];exact this
   ·have B:m≠i:=λe=>by subst e;rw[hq]at a;cases a
    rw[Qz _ _ O];exact h.l9 m g a C H
   ·by_cases hkk:k=8*i+j
    ·subst hkk;rw[ZT]at s;cases s;have J:=h.jb _ U hL;have:((List.range 8).map λC=>Value.int .i64 ((ow (8*(8*i+j)+C):Nat):Int))=[.int .i64 0,.int .i64 0,.int .i64 0,.int .i64 0,.int .i64 0,.int .i64 0,.int .i64 0,.int .i64 0]:=by
      have:((List.range 8).map λC=>Value.int .i64 ((ow (8*(8*i+j)+C):Nat):Int))=(List.range 8).map λ_=>Value.int .i64 0:=by
       apply kA;intro k d;rw[zW]at d;rw[J k d];rfl
      rw[this];rfl
     rw[this];exact Wp o2 K O
    ·rw[Qz _ _ hkk]at s;exact y (h.leaf k r d s) λe=>by subst e;exact h.ml i k r hi d hq s
   ·by_cases hkk:k=8*i+j
    ·subst hkk;rw[ZT]at s;cases s
    ·rw[Qz _ _ hkk]at s;exact h.jb k d s
   ·by_cases hkk:k=8*i+j
    ·subst hkk;rw[ZT]at s;cases s;have:=h.hd.lt;exact⟨.inr (zC _),O⟩
    ·rw[Qz _ _ hkk]at s;exact⟨.inl (h.fl k r d s).1,(h.fl k r d s).2⟩
   ·by_cases e1':k=8*i+j
    ·by_cases e2':G=8*i+j
     ·omega
     ·subst e1';rw[ZT]at w;cases w;rw[Qz _ _ e2']at u;have:=(h.leaf G _ A u).lt;omega
    ·rw[Qz _ _ e1']at w;by_cases e2':G=8*i+j
     ·subst e2';rw[ZT]at u;cases u;have:=(h.leaf k _ D w).lt;omega
     ·rw[Qz _ _ e2']at u;exact h.ll k G r D A w u
   ·by_cases hkk:k=8*i+j
    ·subst hkk;rw[ZT];intro e;cases e;have:=(h.jI m _ g a).lt;omega
    ·rw[Qz _ _ hkk];exact h.ml m k x g d a
  refine aG (Q.rL hi hq hj ?_);rw[ZT];exact hR N _ σ.size (P.to.trans (o2.ext.sub λb L=>L▸E.1)) (ZT _ _ _) Q
theorem PI (h:ku σ F p M Lf ow){k r j no:Nat}(hk:k<128)(hr:Lf k=some r)(hj:j<8){σ':Hp}(ho:QJ σ σ' r)(hb:bW σ' r (((List.range 8).map λj=>Value.int .i64 ((ow (8*k+j):Nat):Int)).set j (.int .i64 (no:Int)))) :
 ku σ' F p M Lf (fQ ow (8*k+j) no):=by
 refine⟨Wp ho h.hd (Ne.symm (h.fl k r hk hr).2),λi q y x=>Wp ho (h.jI i q y x) λe=>by subst e;exact h.ml i k q y hk x hr,h.l9,λd u g b=>?_,λd g b w s=>?_,h.fp,h.fm,h.fl,h.mm,h.ll,h.ml⟩
 ·by_cases hkk:d=k
  ·subst hkk;rw[hr]at b;cases b;rw[Kv]at hb;have:((List.range 8).map (fQ (λj=>Value.int .i64 ((ow (8*d+j):Nat):Int)) j (.int .i64 (no:Int))))=(List.range 8).map λw=>Value.int .i64 ((fQ ow (8*d+j) no (8*d+w):Nat):Int):=by
    apply kA;intro a _;simp only[fQ];by_cases haj:a=j
    ·subst haj;simp
    ·have:¬8*d+a=8*d+j:=by omega
     simp[haj,this]
   rw[this]at hb;exact hb
  ·have m:u≠r:=λe=>by subst e;exact hkk (h.ll d k u g hk b hr)
   have:=Wp ho (h.leaf d u g b) m;have e:((List.range 8).map λa=>Value.int .i64 ((fQ ow (8*k+j) no (8*d+a):Nat):Int))=(List.range 8).map λa=>Value.int .i64 ((ow (8*d+a):Nat):Int):=by
    apply kA;intro a ha;rw[zW]at ha;rw[Qz _ _ O]
   rw[e];exact this
 ·have m:d≠k:=λe=>by subst e;rw[hr]at b;cases b
  rw[Qz _ _ O];exact h.jb d g b w s
theorem Wj8 (h:ku σ F p M Lf ow){i j q:Nat}(hi:i<16)(hj:j<8)(hq:M i=some q)(hz:∀a,a<8->ow (8*(8*i+j)+a)=0){σ':Hp}(ho:QJ σ σ' q)(hb:bW σ' q (((List.range 8).map λj=>ptr (Lf (8*i+j))).set j (.pointer none))) :
 ku σ' F p M (fQ Lf (8*i+j) none) ow:=by
 have E:=h.fm i q hi hq;refine⟨Wp ho h.hd (Ne.symm E.2),λd y m b=>?_,λd m b G z=>?_,λk r x g=>?_,λk x g=>?_,h.fp,h.fm,λk r x g=>?_,h.mm,λk D r C A u s=>?_,λd k y m w b=>?_⟩
 ·by_cases hii:d=i
  ·subst hii;rw[hq]at b;cases b;rw[Kv]at hb;have:((List.range 8).map (fQ (λj=>ptr (Lf (8*d+j))) j (.pointer none)))=(List.range 8).map λk=>ptr (fQ Lf (8*d+j) none (8*d+k)):=by
    apply kA;intro k _;simp only[fQ];by_cases hkj:k=j
    ·subst hkj;simp[ptr]
    ·have:¬8*d+k=8*d+j:=by omega
     simp[hkj,this]
   rw[this]at hb;exact hb
  ·have B:y≠q:=λe=>by subst e;exact hii (h.mm d i y m hi b hq)
   have:=Wp ho (h.jI d y m b) B;have e:((List.range 8).map λk=>ptr (fQ Lf (8*i+j) none (8*d+k)))=(List.range 8).map λk=>ptr (Lf (8*d+k)):=by
    apply kA;intro k w;rw[zW]at w;rw[Qz _ _ O]
   rw[e];exact this
 ·simp only[fQ];split
  ·rfl
  ·exact h.l9 d m b G z
 ·by_cases hkk:k=8*i+j
  ·subst hkk;rw[ZT]at g;cases g
  ·rw[Qz _ _ hkk]at g;exact Wp ho (h.leaf k r x g) λe=>by subst e;exact h.ml i k r hi x hq g
 ·by_cases hkk:k=8*i+j
  ·subst hkk;exact hz
  ·rw[Qz _ _ hkk]at g;exact h.jb k x g
 ·by_cases hkk:k=8*i+j
  ·subst hkk;rw[ZT]at g;cases g
  ·rw[Qz _ _ hkk]at g;exact h.fl k r x g
 ·by_cases e1':k=8*i+j
  ·subst e1';rw[ZT]at u;cases u
  ·rw[Qz _ _ e1']at u;by_cases e2':D=8*i+j
   ·subst e2';rw[ZT]at s;cases s
   ·rw[Qz _ _ e2']at s;exact h.ll k D r C A u s
 ·by_cases hkk:k=8*i+j
  ·subst hkk;rw[ZT];intro e;cases e
  ·rw[Qz _ _ hkk];exact h.ml d k y m w b
theorem Wkr (h:ku σ F p M Lf ow){i:Nat}(hi:i<16)(hz:∀j,j<8->Lf (8*i+j)=none){σ':Hp}(ho:QJ σ σ' p)(hb:bW σ' p ((Value.bool true::(List.range 16).map λi=>ptr (M i)).set (1+i) (.pointer none))) :
 ku σ' F p (fQ M i none) Lf ow:=by
 have m:(Value.bool true::(List.range 16).map λi=>ptr (M i)).set (1+i) (.pointer none)=.bool true::(List.range 16).map λj=>ptr (fQ M i none j):=by
  rw[Nat.add_comm,sK,Kv]
  congr 1
  apply kA;intro j _;simp only[fQ];split<;>rfl
 rw[m]at hb;have e:∀{j q},fQ M i none j=some q->M j=some q:=λ{j q} d=>by
  by_cases hji:j=i
  ·subst hji;rw[ZT]at d;cases d
  ·rwa [Qz _ _ hji]at d
 refine⟨hb,λj q g d=>Wp ho (h.jI j q g (e d)) (h.fm j q g (e d)).2,λj g d=>?_,λk q r d=>Wp ho (h.leaf k q r d) (h.fl k q r d).2,h.jb,h.fp,λj q g d=>h.fm j q g (e d),h.fl,λa b q s hb u w=>h.mm a b q s hb (e u) (e w),h.ll,λa k q s r d=>h.ml a k q s r (e d)⟩;by_cases hji:j=i
 ·subst hji;exact hz
 ·rw[Qz _ _ hji]at d;exact h.l9 j g d
theorem Ov (h:jH σ F p ow){x no:Nat}(hx:x<1024){R:aP}(hR:∀σ',Ext F σ σ'->jH σ' (Grow F σ) p (fQ ow x no)->R σ'):Zu.c (aW p) (x:Int) (no:Int) σ R:=by
 refine Zu.o ?_;obtain⟨M,Lf,h⟩:=h;have N:((x:Int).tdiv 8)=((x/8:Nat):Int):=by rw[Xq O];simp
 have t2:(((x/8:Nat):Int).tdiv 8)=((x/8/8:Nat):Int):=by rw[Xq O];simp
 have t3:(((x/8:Nat):Int).tmod 8)=((x/8%8:Nat):Int):=by rw[Q4 O];simp
 have t4:((x:Int).tmod 8)=((x%8:Nat):Int):=by rw[Q4 O];simp
 have hk:8*(x/8/8)+x/8%8=x/8:=by omega
 have Q:8*(x/8)+x%8=x:=by omega
 refine nz aB (bZ N O (nz aB (bZ t2 O (aG ?_))));refine rm O ?_;rw[add_lit,add_lit,zG,m9];refine R8 h O λW M1 q e1 B h1=>?_;refine nz aB (bZ N O (nz aB (aG ?_)));rw[t3];refine rm O ?_;rw[add_lit,zG,m9];refine RX h1 O O B λv2 L2 r e2 K h2=>?_;rw[hk]at K;have e02:Ext F σ v2:=e1.iI e2;refine nz aB (aG ?_);rw[t4];refine rm O ?_;rw[add_lit,zG,m9];have u:x/8<128:=by omega
 refine(h2.leaf _ r u K).s0 aE λv3 o3 b3=>?_;have z:=PI h2 u K O o3 b3;rw[Q]at z;have a:∀b,Grow (Grow F σ) W b->Grow F σ b:=λb s=>by
  rcases s with h|h
  ·exact h
  ·exact .inr (zI e1.1 h)
 have J:Ext F σ v3:=e02.fE o3.ext λb s=>by subst s;exact a _ (h2.fl _ _ u K).1
 have tail:∀v L4,Ext F σ v->ku v (Grow (Grow F σ) W) p M1 L4 (fQ ow x no) →
  (bQ (some ⟨q,0,none⟩) λe=>fX (e.add 0) v λt42=>fX (e.add 1) v λA=>fX (e.add 2) v λL=>fX (e.add 3) v λE=>fX (e.add 4) v λH=>fX (e.add 5) v λD=>fX (e.add 6) v λG=>fX (e.add 7) v λC=>
   If (t42.isNone&&(A.isNone&&(L.isNone&&(E.isNone&&(H.isNone&&(D.isNone&&(G.isNone&&(C.isNone&&true)))))))) (Nz 8<|Ar .i64 ((x:Int).tdiv 8) λZ=>Nz 8<|Ar .i64 (Z.tdiv 8) λP=>bQ (some ⟨p,0,none⟩) λa49=>pn (a49.add 1) 16 P 1 λaa=>dG aa (.pointer none) v λY=>R Y) (R v)):=by
  intro v L4 ev h4;have m:=h4.jI _ q O B;have g:∀j,j<8->((List.range 8).map λj=>ptr (L4 (8*(x/8/8)+j)))[0+j]?=some (.pointer ((L4 (8*(x/8/8)+j)).map λq=>⟨q,0,none⟩)):=λj y=>by rw[zG,Ku _ y];rfl
  refine aG (m.rP (g 0 O) (m.rP (g 1 O) (m.rP (g 2 O) (m.rP (g 3 O) (m.rP (g 4 O) (m.rP (g 5 O) (m.rP (g 6 O) (m.rP (g 7 O) ?_))))))));have fin:∀w,Ext F σ w->jH w (Grow (Grow F σ) W) p (fQ ow x no)->R w:=λw ew hw=>hR w ew (jH.loc.mono hw λb _ s=>a b s);refine cN (λd=>?_) λ_=>fin v ev ⟨_,_,h4⟩;have hz:∀j,j<8->L4 (8*(x/8/8)+j)=none:=by
   simp only[Option.isNone_map,uG,zF,Option.isNone_iff_eq_none]at d;intro j y;obtain⟨a0,X,a2,V,a4,U,a6,S⟩:=d
   match j,y with
   | 0,_=>exact a0
   | 1,_=>exact X
   | 2,_=>exact a2
   | 3,_=>exact V
   | 4,_=>exact a4
   | 5,_=>exact U
   | 6,_=>exact a6
   | 7,_=>exact S
  refine nz aB (bZ N O (nz aB (bZ t2 O (aG ?_))));refine rm O ?_;rw[add_lit,add_lit,zG,m9];refine h4.hd.s0 aE λY o4 b4=>fin Y (ev.fE o4.ext λb s=>by subst s;exact a _ h4.fp) ⟨_,_,Wkr h4 O hz o4 b4⟩
 refine Jn.intro (aG ?_);have i:=z.leaf _ r u K;have g:∀j,j<8->((List.range 8).map λj=>Value.int .i64 ((fQ ow x no (8*(x/8)+j):Nat):Int))[0+j]?=some (.int .i64 ((fQ ow x no (8*(x/8)+j):Nat):Int)):=λj y=>by rw[zG,Ku _ y]
 refine i.rI (g 0 O) (i.rI (g 1 O) (i.rI (g 2 O) (i.rI (g 3 O) (i.rI (g 4 O) (i.rI (g 5 O) (i.rI (g 6 O) (i.rI (g 7 O) ?_)))))));refine cN (λd=>?_) λ_=>tail v3 L2 J z;have hz:∀j,j<8->fQ ow x no (8*(8*(x/8/8)+x/8%8)+j)=0:=by
  rw[hk];simp only[vu,uG,zF,zZ]at d;intro j y;obtain⟨a0,X,a2,V,a4,U,a6,S⟩:=d
  match j,y with
  | 0,_=>exact a0
  | 1,_=>exact X
  | 2,_=>exact a2
  | 3,_=>exact V
  | 4,_=>exact a4
  | 5,_=>exact U
  | 6,_=>exact a6
  | 7,_=>exact S
 refine nz aB (bZ N O (nz aB (aG ?_)));rw[t3];refine rm O ?_;rw[add_lit,zG,m9];have m:=z.jI _ q O B;refine m.s0 aE λv5 o5 b5=>?_;exact tail v5 _ (J.fE o5.ext λb s=>by subst s;exact a _ (z.fm _ _ O B).1) (Wj8 z O O B hz o5 b5)
def kg (ow:Nat->Nat)(a m no:Nat):Nat->Nat:=if Zi 1024 a m then λp=>if a<=p/\p<a+m then no else ow p else ow
def vH (a m:Int):Int:=if Zi 1024 a m then 0 else 1
theorem Fi (h:jH σ F p ow)(a m:Int)(ha : -1000000000000<=a)(ha2:a<=1000000000000)(no:Nat){R:aN}(h1:Zi 1024 a m=false->R 1 σ)
 (hR:∀x y:Nat,a=x->m=y->1<=y->x+y<=1024->∀σ',Ext F σ σ'->jH σ' (Grow F σ) p (kg ow x y no)->R 0 σ'):YX.c (aW p) a m (no:Int) σ R:=by
 refine YX.o ?_;have d:¬(0<=a/\1<=m/\m<=1024-a)->R 1 σ:=λs=>h1 (by simp only[Zi,←vB];exact zb s);refine CE h (cF rfl (bY.intro (cH (λD=>bY.intro (cJ rfl (bY.intro (cJ rfl (cJ rfl (d O)))))) λD=>?_)));refine bY.intro (cH (λA=>bY.intro (cJ rfl (cJ rfl (d O)))) λA=>?_);refine bY.intro (cH (λw=>cJ rfl (d O)) λw=>ar O O (cH (λB=>d O) λB=>?_));obtain⟨x,rfl⟩:=zk (show 0<=a by omega);obtain⟨y,rfl⟩:=zk (show 0<=m by omega);have j:Zi 1024 (x:Int) (y:Int)=true:=by simp only[Zi,zF,zR];omega
 refine ZP (a:=bN) (λ(t:Int) v=>∃i:Nat,t=((x+i:Nat):Int)/\i<=y/\Ext F σ v/\jH v (Grow F σ) p (λz=>if x<=z/\z<x+i then no else ow z)) (λt _=>x+y-t.toNat) ⟨0,rfl,O,Ext.refl _ _,?_⟩ ?_
 ·have:(λz=>if x<=z/\z<x+0 then no else ow z)=ow:=by
   funext z;rw[zA O]
  rw[this];exact jH.loc.mono h λb _ g=>.inl g
 rintro t v ⟨i,rfl,H,e,r⟩;refine bZ (m:=x+y) O O (cH (λE=>?_) λG=>?_)
 ·refine Ov r O λK u C=>bZ (m:=x+(i+1)) O O ⟨⟨i+1,rfl,O,e.iI u,?_⟩,O⟩;refine jH.congr (jH.loc.mono C λb _ g=>?_) λz J=>?_
  ·rcases g with h|h
   ·exact h
   ·exact .inr (zI e.1 h)
  ·simp only[fQ];by_cases hzi:z=x+i
   ·subst hzi;rw[zB rfl,zB O]
   ·rw[zA hzi];by_cases hin:x<=z/\z<x+i
    ·rw[zB hin,zB O]
    ·rw[zA hin,zA O]
 ·have:i=y:=by omega
  subst this;refine hR x i rfl rfl O O v e ?_;unfold kg;rw[j];exact r
theorem OU (h:jH σ F p ow)(a m:Nat)(ha:a<=1000000){no:Nat}(hno:1<=no)(hno2:no<=1000){R:aN}(hR:∀σ',Ext F σ σ'->jH σ' (Grow F σ) p (kg ow a m no)->R (vH a m) σ'):Yu.c (aW p) a m (no:Int) σ R:=by
 refine Yu.o ?_;refine CE h (bY.intro (cJ rfl (bY.intro (fH O (fH O ?_)))));refine Fi h a m O O no (λj=>?_) λx y A z u w σ' e r=>?_
 ·have:=hR σ (Ext.refl _ _) (by unfold kg;rw[j];exact jH.loc.mono h λb _ s=>.inl s);unfold vH at this;rw[j]at this;exact this
 ·have d:a=x:=by omega
  have i:m=y:=by omega
  subst d;subst i;have g:Zi 1024 (a:Int) (m:Int)=true:=by simp only[Zi,zF,zR];omega
  have:=hR σ' e r;unfold vH at this;rw[g]at this;exact this
theorem RO (h:jH σ F p ow)(a m:Nat)(ha:a<=1000000){R:aN}(hR:∀σ',Ext F σ σ'->jH σ' (Grow F σ) p (kg ow a m 0)->R (vH a m) σ'):XY.c (aW p) a m σ R:=by
 refine XY.o ?_;refine Fi h a m O O 0 (λj=>?_) λx y A z u w σ' e r=>?_
 ·have:=hR σ (Ext.refl _ _) (by unfold kg;rw[j];exact jH.loc.mono h λb _ s=>.inl s);unfold vH at this;rw[j]at this;exact this
 ·have d:a=x:=by omega
  have i:m=y:=by omega
  subst d;subst i;have g:Zi 1024 (a:Int) (m:Int)=true:=by simp only[Zi,zF,zR];omega
  have:=hR σ' e r;unfold vH at this;rw[g]at this;exact this
end Go.Ar
namespace Go.Proofs
open Go.Shelf
def Tryz.iS:Go.Shelf.Ren:=⟨fun|7=>279|10=>299|n=>n,fun|23=>219|26=>3|3=>4|28=>117|0=>0|27=>116|33=>152|4=>4|n=>n,fun|n=>n⟩
theorem Tryz.nT:Go.Proofs.SlLaysZI.n7 Tryz.prog Tryz.iS:={
 mixed:=by kernel_rfl
 f7:=⟨Tryz.f279.name,by decide,Tryz.func279.trans (congrArg some (by kernel_rfl))⟩
 f10:=⟨Tryz.f299.name,by decide,Tryz.func299.trans (congrArg some (by kernel_rfl))⟩
 t0:=Tryz.underlying0
 a0:=Tryz.isAgg0
 z0:=Tryz.sizeOf0
 v0:=Tryz.zeroValue0
 t4:=Tryz.underlying4
 a4:=Tryz.isAgg4
 z4:=Tryz.sizeOf4
 v4:=Tryz.zeroValue4
 t23:=Tryz.underlying219
 a23:=Tryz.isAgg219
 z23:=Tryz.sizeOf219
 v23:=Tryz.zeroValue219
 t26:=Tryz.underlying3
 a26:=Tryz.isAgg3
 z26:=Tryz.sizeOf3
 v26:=Tryz.zeroValue3
 t27:=Tryz.underlying116
 a27:=Tryz.isAgg116
 z27:=Tryz.sizeOf116
 v27:=Tryz.zeroValue116
 t28:=Tryz.underlying117
 a28:=Tryz.isAgg117
 z28:=Tryz.sizeOf117
 v28:=Tryz.zeroValue117
 t33:=Tryz.underlying152
 a33:=Tryz.isAgg152
 z33:=Tryz.sizeOf152
 v33:=Tryz.zeroValue152}
def Tryz.j4:Go.Shelf.Ren:=⟨fun|6=>66|8=>93|9=>94|11=>127|13=>129|12=>128|23=>167|24=>168|14=>158|15=>159|16=>160|17=>161|18=>162|19=>163|20=>164|21=>165|22=>166|25=>205|26=>206|27=>207|28=>208|29=>209|30=>210|31=>249|n=>n,fun|26=>3|28=>117|24=>69|0=>0|3=>3|37=>199|48=>255|50=>257|4=>4|40=>248|39=>247|45=>252|5=>5|9=>9|51=>299|55=>105|57=>335|58=>336|33=>152|n=>n,fun|n=>n⟩
theorem Tryz.re:Go.Proofs.SlLaysZI.n6 Tryz.prog Tryz.j4:={
 mixed:=by kernel_rfl
 f6:=⟨Tryz.f66.name,by decide,Tryz.func66.trans (congrArg some (by kernel_rfl))⟩
 f8:=⟨Tryz.f93.name,by decide,Tryz.func93.trans (congrArg some (by kernel_rfl))⟩
 f11:=⟨Tryz.f127.name,by decide,Tryz.func127.trans (congrArg some (by kernel_rfl))⟩
 t0:=Tryz.underlying0
 a0:=Tryz.isAgg0
 z0:=Tryz.sizeOf0
 v0:=Tryz.zeroValue0
 t24:=Tryz.underlying69
 a24:=Tryz.isAgg69
 z24:=Tryz.sizeOf69
 v24:=Tryz.zeroValue69
 t26:=Tryz.underlying3
 a26:=Tryz.isAgg3
 z26:=Tryz.sizeOf3
 v26:=Tryz.zeroValue3
 t28:=Tryz.underlying117
 a28:=Tryz.isAgg117
 z28:=Tryz.sizeOf117
 v28:=Tryz.zeroValue117
 i26:=by kernel_rfl}
def Tryz.oP:Go.Shelf.Ren:=⟨fun|8=>93|11=>127|n=>n,fun|26=>3|28=>117|24=>69|0=>0|33=>152|4=>4|n=>n,fun|n=>n⟩
theorem Tryz.xj:Go.Proofs.SlLaysZI.n8 Tryz.prog Tryz.oP:={
 mixed:=by kernel_rfl
 f8:=⟨Tryz.f93.name,by decide,Tryz.func93.trans (congrArg some (by kernel_rfl))⟩
 f11:=⟨Tryz.f127.name,by decide,Tryz.func127.trans (congrArg some (by kernel_rfl))⟩
 t0:=Tryz.underlying0
 a0:=Tryz.isAgg0
 z0:=Tryz.sizeOf0
 v0:=Tryz.zeroValue0
 t24:=Tryz.underlying69
 a24:=Tryz.isAgg69
 z24:=Tryz.sizeOf69
 v24:=Tryz.zeroValue69
 t26:=Tryz.underlying3
 a26:=Tryz.isAgg3
 z26:=Tryz.sizeOf3
 v26:=Tryz.zeroValue3
 t28:=Tryz.underlying117
 a28:=Tryz.isAgg117
 z28:=Tryz.sizeOf117
 v28:=Tryz.zeroValue117
 i26:=by kernel_rfl}
def Tryz.oF:Go.Shelf.Ren:=⟨fun|5=>94|8=>129|7=>128|19=>167|20=>168|10=>158|11=>159|12=>160|13=>161|14=>162|15=>163|16=>164|17=>165|18=>166|30=>205|31=>206|32=>207|33=>208|34=>209|35=>210|40=>249|n=>n,fun|23=>69|25=>3|3=>3|32=>199|22=>69|0=>0|44=>255|46=>257|4=>4|36=>248|35=>247|41=>252|5=>5|9=>9|53=>299|57=>105|63=>335|64=>336|n=>n,fun|n=>n⟩
theorem Tryz.pH:Go.Proofs.SlLaysM.n5 Tryz.prog Tryz.oF:={
 mixed:=by kernel_rfl
 f5:=⟨Tryz.f94.name,by decide,Tryz.func94.trans (congrArg some (by kernel_rfl))⟩
 f7:=⟨Tryz.f128.name,by decide,Tryz.func128.trans (congrArg some (by kernel_rfl))⟩
 f8:=Tryz.func129.trans (congrArg some (by kernel_rfl))
 f10:=⟨Tryz.f158.name,by decide,Tryz.func158.trans (congrArg some (by kernel_rfl))⟩
 f11:=⟨Tryz.f159.name,by decide,Tryz.func159.trans (congrArg some (by kernel_rfl))⟩
 f12:=⟨Tryz.f160.name,by decide,Tryz.func160.trans (congrArg some (by kernel_rfl))⟩
 f13:=⟨Tryz.f161.name,by decide,Tryz.func161.trans (congrArg some (by kernel_rfl))⟩
 f14:=⟨Tryz.f162.name,by decide,Tryz.func162.trans (congrArg some (by kernel_rfl))⟩
 f15:=⟨Tryz.f163.name,by decide,Tryz.func163.trans (congrArg some (by kernel_rfl))⟩
 f16:=⟨Tryz.f164.name,by decide,Tryz.func164.trans (congrArg some (by kernel_rfl))⟩
 f17:=⟨Tryz.f165.name,by decide,Tryz.func165.trans (congrArg some (by kernel_rfl))⟩
 f18:=⟨Tryz.f166.name,by decide,Tryz.func166.trans (congrArg some (by kernel_rfl))⟩
 f19:=Tryz.func167.trans (congrArg some (by kernel_rfl))
 f20:=Tryz.func168.trans (congrArg some (by kernel_rfl))
 f30:=⟨Tryz.f205.name,by decide,Tryz.func205.trans (congrArg some (by kernel_rfl))⟩
 f31:=Tryz.func206.trans (congrArg some (by kernel_rfl))
 f32:=Tryz.func207.trans (congrArg some (by kernel_rfl))
 f33:=⟨Tryz.f208.name,by decide,Tryz.func208.trans (congrArg some (by kernel_rfl))⟩
 f34:=⟨Tryz.f209.name,by decide,Tryz.func209.trans (congrArg some (by kernel_rfl))⟩
 f35:=⟨Tryz.f210.name,by decide,Tryz.func210.trans (congrArg some (by kernel_rfl))⟩
 f40:=⟨Tryz.f249.name,by decide,Tryz.func249.trans (congrArg some (by kernel_rfl))⟩
 t0:=Tryz.underlying0
 a0:=Tryz.isAgg0
 z0:=Tryz.sizeOf0
 v0:=Tryz.zeroValue0
 t3:=Tryz.underlying3
 a3:=Tryz.isAgg3
 z3:=Tryz.sizeOf3
 v3:=Tryz.zeroValue3
 t4:=Tryz.underlying4
 a4:=Tryz.isAgg4
 z4:=Tryz.sizeOf4
 v4:=Tryz.zeroValue4
 t5:=Tryz.underlying5
 a5:=Tryz.isAgg5
 z5:=Tryz.sizeOf5
 v5:=Tryz.zeroValue5
 t9:=Tryz.underlying9
 a9:=Tryz.isAgg9
 z9:=Tryz.sizeOf9
 v9:=Tryz.zeroValue9
 t22:=Tryz.underlying69
 a22:=Tryz.isAgg69
 z22:=Tryz.sizeOf69
 v22:=Tryz.zeroValue69
 t23:=Tryz.underlying69
 a23:=Tryz.isAgg69
 z23:=Tryz.sizeOf69
 v23:=Tryz.zeroValue69
 t25:=Tryz.underlying3
 a25:=Tryz.isAgg3
 z25:=Tryz.sizeOf3
 v25:=Tryz.zeroValue3
 t32:=Tryz.underlying199
 a32:=Tryz.isAgg199
 z32:=Tryz.sizeOf199
 v32:=Tryz.zeroValue199
 t35:=Tryz.underlying247
 a35:=Tryz.isAgg247
 z35:=Tryz.sizeOf247
 v35:=Tryz.zeroValue247
 t36:=Tryz.underlying248
 a36:=Tryz.isAgg248
 z36:=Tryz.sizeOf248
 v36:=Tryz.zeroValue248
 t41:=Tryz.underlying252
 a41:=Tryz.isAgg252
 z41:=Tryz.sizeOf252
 v41:=Tryz.zeroValue252
 t44:=Tryz.underlying255
 a44:=Tryz.isAgg255
 z44:=Tryz.sizeOf255
 v44:=Tryz.zeroValue255
 t46:=Tryz.underlying257
 a46:=Tryz.isAgg257
 z46:=Tryz.sizeOf257
 v46:=Tryz.zeroValue257
 t53:=Tryz.underlying299
 a53:=Tryz.isAgg299
 z53:=Tryz.sizeOf299
 v53:=Tryz.zeroValue299
 t57:=Tryz.underlying105
 a57:=Tryz.isAgg105
 z57:=Tryz.sizeOf105
 v57:=Tryz.zeroValue105
 t63:=Tryz.underlying335
 a63:=Tryz.isAgg335
 z63:=Tryz.sizeOf335
 v63:=Tryz.zeroValue335
 t64:=Tryz.underlying336
 a64:=Tryz.isAgg336
 z64:=Tryz.sizeOf336
 v64:=Tryz.zeroValue336}
end Go.Proofs
namespace Go.Bu
open Go Go.Vc Go.Proofs Go.RowKit Go.Maps Go.Sort Go.Shelf
variable {σ:Hp}
def oc (B:Nat)(h:Hp)(s:Sl)(xs:List Value):Prop:=
 s.len=xs.length/\(xs=[]/\s.a=none\/∃b cs,B<=b/\s.a=some ⟨b,0,none⟩/\bW h b cs/\∀j,j<xs.length->cs[j]?=xs[j]?)
theorem oc.bU {B:Nat}{h h':Hp}{s:Sl}{xs:List Value}{F:Nat->Prop}(hs:oc B h s xs)(e:Ext F h h')(hF:∀b,F b->b<B):oc B h' s xs:=by
 refine⟨hs.1,hs.2.imp id ?_⟩;rintro⟨b,cs,hb,ha,hk,hc⟩;exact⟨b,cs,hb,ha,e.cA hk (λa=>by have:=hF b a;omega),hc⟩
theorem oc.mono {B B':Nat}{h:Hp}{s:Sl}{xs:List Value}(hs:oc B h s xs)(hB:B'<=B):oc B' h s xs:=by
 refine⟨hs.1,hs.2.imp id ?_⟩;rintro⟨b,cs,hb,ha,hk,hc⟩;exact⟨b,cs,O,ha,hk,hc⟩
theorem oc.qc {B:Nat}{h:Hp}{s:Sl}{xs:List Int}(hs:oc B h s (xs.map (Value.int .i64))){i:Nat}{x:Int}(hx:xs[i]?=some x){K:Int->Prop}(hK:K x) :
 Ix s.a s.len (i:Int) 1 λa=>eW .i64 a h K:=by
 have d:i<xs.length:=(cS.1 hx).1;rcases hs.2 with⟨h0,_⟩|⟨b,cs,_,ha,hb,hc⟩
 ·simp at h0;subst h0;simp at d
 ·rw[ha];refine ix O (by rw[hs.1];simp;omega) ?_;rw[add_lit];refine nV ?_ hK;rw[hb.cell];have:=hc i (by simpa using d);simpa[hx]using this
theorem Gy {w w':World}(h:Below w.heap.size w w'):bO w.heap w'.heap:=⟨h.size,λb a _=>h.block b a⟩
theorem EL {n:Nat}{w w':World}(h:Below n w w'):ZV w w':=⟨h.os,h.tape,h.output,h.size⟩
def vK:Nat:=Tryz.iS.f 10
def JU:Nat:=Tryz.iS.t 23
theorem PQ (m:Option Nat){R:Fv->Hp->Prop}(hR:R ⟨vK,#[],#[.pointer (some ⟨σ.size,0,none⟩)]⟩ (σ.push (.cells #[.map m] JU (0,0)))) :
 Qv.c m σ R:=by
 rintro w rfl;refine(callsIn_wide.1 (AnyZI.keys_in Tryz.nT Fence.wide 5 trivial rfl m w)).mono ?_;rintro e a ⟨rfl,rfl⟩;exact⟨⟨rfl,rfl,rfl,sZ (by show _<(w.heap.push _).size;simp)⟩,[.func (.func vK) #[] #[.pointer (some ⟨w.heap.size,0,none⟩)]],rfl,⟨vK,#[],#[.pointer (some ⟨w.heap.size,0,none⟩)]⟩,rfl,hR⟩
def lP (x:Int):Prop:=-9223372036854775808<=x/\x<=9223372036854775807
theorem Hi {P:Program}{kt:Nat}(hk:P.underlying kt=some (.int .i64)){w:World}{m:Nat}{c:CK}{B:List (Int×c.T)}(h:dN w.heap m .i64 c B)(hb:∀x∈B,lP x.1)(hs:B.length<=1000000) :
 ∃D:DataW Unit,w.ownsMap P kt (λ_=>some (.nil,[])) m B.length D/\(intKeys D).Perm (B.map (·.1))/\Maps.size D=B.length:=by
 obtain⟨d,C,L,u,N,J,E⟩:=h;have r:d.size=B.length:=by simpa using congrArg List.length u
 have i:∀e∈d.toList,∃x:Int,e.key=.int .i64 x/\lP x:=by
  intro e hme;have:(e.key,e.val)∈d.toList.map (λe=>(e.key,e.val)):=yn hme;rw[u]at this;obtain⟨y,M,G⟩:=zD.1 this;simp only[Prod.mk.injEq]at G;exact⟨y.1,G.1.symm,hb y M⟩
 have wf:∀x:Int,lP x->(Lit.int .i64 x).wf=true:=by
  rintro x ⟨s,R⟩;simp[Lit.wf,IntKind.min,IntKind.max,IntKind.bits,IntKind.signed];omega
 have j:∀e∈d.toList,∃x:Int,e.key=.int .i64 x/\Go.WideElems.rd P kt (λ_=>some ((.nil:DataW Unit),[])) e=some (.int .i64 x,.nil):=by
  intro e hme;obtain⟨x,g,K⟩:=i e hme;refine⟨x,g,?_⟩;simp[Go.WideElems.rd,keyOf,hk,g,mapKey,wf x K]
 refine⟨.map ((d.toList.map (Go.WideElems.rg P kt (λ_=>some (.nil,[])))).foldr DataW.insert []),⟨d,C,L,⟨?_,⟨λx g=>E x g,?_,?_⟩,λx g=>?_⟩,O,rfl⟩,?_,?_⟩
 ·have:1000000<=maxLen:=by unfold maxLen;omega
  omega
 ·exact J.imp (λh=>xV h)
 ·have A:d.toList.map (·.key)=(B.map (·.1)).map (Value.int .i64):=by
   have:=congrArg (List.map Prod.fst) u;simpa[kP,Function.comp_def]using this
  rw[A];exact List.Pairwise.map _ (λa b (z:a≠b) F=>z (by simpa using F)) N
 ·obtain⟨Q,_,s⟩:=j x g;exact⟨_,s⟩
 ·simp only[intKeys];refine((Go.WideShapes.sorted_perm _).map _).trans ?_;rw[kP];have:d.toList.map ((λp=>Go.intOf p.1)∘Go.WideElems.rg P kt (λ_=>some ((.nil:DataW Unit),[])))=B.map (·.1):=by
   have A:d.toList.map (·.key)=(B.map (·.1)).map (Value.int .i64):=by
    have:=congrArg (List.map Prod.fst) u;simpa[kP,Function.comp_def]using this
   have H:d.toList.map ((λp=>Go.intOf p.1)∘Go.WideElems.rg P kt (λ_=>some ((.nil:DataW Unit),[])))=(d.toList.map (·.key)).map (λv=>match v with | .int _ x=>x|_=>0):=by
    rw[kP];apply kA;intro e hme;obtain⟨x,g,s⟩:=j e hme;simp[Function.comp,Go.WideElems.rg,s,g,Go.intOf]
   rw[H,A,kP]
   conv=>rhs;rw[←xJ (B.map (·.1))]
   rfl
  rw[this]
 ·simp only[Maps.size];rw[(Go.WideShapes.sorted_perm _).length_eq];simp[r]
theorem EM {w:World}{B e n:Nat}{v:Value}{xs:List Value}(h:w.ownsRow B e 1 v n xs):∃s:Sl,v=.slice s.a s.len s.cap/\oc B w.heap s xs:=by
 obtain⟨b,h⟩:=h;rcases h with⟨rfl,rfl⟩|⟨g,cap,cur,rfl,hb,hg,_,_,hcs,ht⟩
 ·exact⟨⟨none,0,0⟩,rfl,by simp at b;simp[b],.inl ⟨by simpa using b,rfl⟩⟩
 ·refine⟨⟨some ⟨g,0,none⟩,n,cap⟩,rfl,by simp at b;simp[b],.inr ⟨g,cur.toList,hb,rfl,⟨e,by simpa using hg⟩,λj d=>?_⟩⟩;rw[←ht,zY,zB O]
theorem PM {w:World}{c m:Nat}{B:List (Int×Bool)}(hc:cell w.heap ⟨c,0,none⟩=some (.map (some m)))(hm:dN w.heap m .i64 .b B)(hb:∀x∈B,lP x.1)(hs:B.length<=1000000)(n:Nat)(hn:1<=n) :
 SeqGives Fence.wide n Tryz.prog vK #[.pointer (some ⟨c,0,none⟩)] encZ (λss=>ss.Perm (B.map (·.1))) B.length w:=by
 obtain⟨D,p,r,a⟩:=Hi (P:=Tryz.prog) Tryz.nT.t26 hm hb hs;have d:c<w.heap.size:=by
  unfold cell at hc;split at hc
  ·rename_i h;exact(mT.1 h).1
  ·cases hc
 have:=AnyZI.keys_gives (ρ:=Tryz.iS) {Tryz.nT with} Fence.wide n trivial rfl hn c m B.length D w d hc p;intro l J W hW hJ hY h0;rw[a]at this;refine(this l J W hW hJ hY h0).mono ?_;rintro e W' ⟨j,ss,g,i⟩;exact⟨j,ss,g.trans r,i⟩
theorem Lg (m:Nat):AnyZI.SortsIn Tryz.prog Tryz.j4 Fence.wide m:=
 ⟨λcA d cap e W g a b=>callsIn_wide.2 (AnyM.slices_Sort_int Tryz.pH cA d cap e W g a b),
  λp cap W=>callsIn_wide.2 (AnyM.slices_Sort_int_none Tryz.pH p cap W)⟩
theorem Tz {c m:Nat}{B:List (Int×Bool)}(hc:cell σ ⟨c,0,none⟩=some (.map (some m)))(hm:dN σ m .i64 .b B)(hb:∀x∈B,lP x.1)(hs:B.length<=1000000){R:Sl->Hp->Prop}
 (hR:∀(s:Sl) (σ':Hp) (ss:List Int),bO σ σ'->ss.Perm (B.map (·.1))->oc σ.size σ' s (ss.map (Value.int .i64))->R s σ') :
 Vz.c ⟨vK,#[],#[.pointer (some ⟨c,0,none⟩)]⟩ σ R:=by
 rintro w rfl;have i:=PM hc hm hb hs 3 O;have j:B.length<=maxLen:=by unfold maxLen;omega
 have y:=AnyZI.collect_in Tryz.xj Fence.wide 5 trivial trivial rfl O vK #[.pointer (some ⟨c,0,none⟩)] trivial (Tryz.nT.f10.enters rfl) _ _ j O _ i;refine(callsIn_wide.1 y).mono ?_;rintro e z ⟨v,ss,rfl,u,d,r,g⟩;obtain⟨s,rfl,p⟩:=EM d;exact⟨EL g,[.slice s.a s.len s.cap],rfl,s,rfl,hR s _ ss (Gy g) u p⟩
end Go.Bu
namespace Go.Bu
open Go Go.Vc Go.Proofs
variable {σ:Hp}{p n sb:Nat}{S:Nat->Bool}{ms:List Nat}
theorem OX {B:Nat}{s:Sl}{xs:List Int}(hs:oc B σ s (xs.map (Value.int .i64)))(hl:xs.length<1000000000){m:Int}(hm:m∈xs)(hle:∀y∈xs,m<=y){R:aN}(hR:R m σ):X5.c s σ R:=by
 refine X5.o ?_;have z:s.len=xs.length:=by simpa using hs.1
 have g:0<xs.length:=List.length_pos_of_mem hm;refine Jn.intro (fH O ?_);have x:xs[0]?=some xs[0]:=by simp[g]
 refine hs.qc (i:=0) x ?_;refine Kh (a:=bN) (bb:=bN) (λ(c t:Int) A=>∃k:Nat,t=(k:Int)/\k<=xs.length/\A=σ/\c∈xs/\∀(j:Nat) (y:Int),j<k->xs[j]?=some y->c<=y) (λ_ t _=>xs.length-t.toNat)
  ⟨1,rfl,O,rfl,zd _,λj y p d=>?_⟩ ?_
 ·have:j=0:=by omega
  subst this;rw[x]at d;cases d;omega
 rintro c t A ⟨k,rfl,G,rfl,u,b⟩;refine cH (λE=>?_) (λF=>?_)
 ·have r:k<xs.length:=by omega
  have w:xs[k]?=some xs[k]:=by simp[r]
  refine hs.qc w (bZ (m:=k+1) O O ⟨⟨k+1,rfl,O,rfl,?_,λj y p d=>?_⟩,O⟩)
  ·split
   ·exact zd _
   ·exact u
  ·by_cases e:j=k
   ·subst e;rw[w]at d;cases d;split<;>omega
   ·have:=b j y O d;split<;>omega
 ·have:k=xs.length:=by omega
  subst this;obtain⟨j,p,e⟩:=ve hm;have C:=b j m p (by simp[p,e]);have D:=hle c u;have:c=m:=Int.le_antisymm C D;rw[this];exact hR
def Km (n:Nat)(S:Nat->Bool)(k:Nat):List Nat:=((List.range n).filter (can S k)).map (· * 2^k)
theorem Sj (hb:Bounded S n){k q:Nat}(hc:can S k q=true):q<n:=by
 have:=ZX hb (ZR.1 hc).1;have a:=kY k;have b:q<=q*2^k:=Ed _ a;omega
theorem Q1 (hb:Bounded S n){k x:Nat}:x∈Km n S k↔∃q,x=q*2^k/\can S k q=true:=by
 simp only[Km,zD,zH,zW];constructor
 ·rintro⟨q,⟨_,hc⟩,rfl⟩;exact⟨q,rfl,hc⟩
 ·rintro⟨q,rfl,hc⟩;exact⟨q,⟨Sj hb hc,hc⟩,rfl⟩
theorem H4 (n:Nat)(S:Nat->Bool)(k:Nat):(Km n S k).Pairwise (· < ·):=by
 unfold Km;refine List.Pairwise.map _ (λa b h=>Nat.mul_lt_mul_of_pos_right h (kY k)) ?_;exact List.Pairwise.sublist sk List.pairwise_lt_range
theorem GI (n:Nat)(S:Nat->Bool)(k:Nat):(Km n S k).length=many n S k:=by
 simp[Km,many,wW]
theorem MF {k:Nat}{B:List (Int×Bool)}(hK:Keys S k B)(hn:(B.map (·.1)).Nodup)(hb:Bounded S n):(B.map (·.1)).Perm ((Km n S k).map λ(x:Nat)=>(x:Int)):=by
 rw[xo hn]
 ·intro x;simp only[zD];constructor
  ·rintro⟨⟨x1,x2⟩,hm,rfl⟩;obtain⟨_,q,i,d⟩:=hK.1 x1 x2 hm;exact⟨_,(Q1 hb).2 ⟨q,rfl,d⟩,i.symm⟩
  ·rintro⟨y,hy,rfl⟩;obtain⟨q,rfl,d⟩:=(Q1 hb).1 hy;exact⟨_,hK.2 q d,rfl⟩
 ·refine List.Pairwise.map _ (λa b (g:a<b)=>?_) (H4 n S k);intro e;have:a=b:=by exact_mod_cast e
  omega
theorem NX {k:Nat}{B:List (Int×Bool)}(hK:Keys S k B)(hb:Bounded S n)(hn:n<=1024):∀x∈B,lP x.1:=by
 rintro⟨x,v⟩ hx;obtain⟨_,q,rfl,a⟩:=hK.1 x v hx;have:=ZX hb (ZR.1 a).1;have:=kY k;constructor<;>simp only<;>omega
theorem Tr (h:BH σ p n S sb ms){k:Nat}(hk:ms.length<=k):Km n S k=[]:=by
 rw[List.eq_nil_iff_forall_not_mem];intro x hx;obtain⟨q,_,a⟩:=(Q1 h.jK).1 hx;have:=h.fits (ZX h.jK (ZR.1 a).1);omega
theorem MZ {h:Hp}{v:Value}{e:Nat}:cell (h.push (.cells #[v] e (0,0))) ⟨h.size,0,none⟩=some v:=by simp[cell]
theorem Hy (h:Hp)(o:Obj):bO h (h.push o):=Ext.push _ _ _
def gG (a:Int):Bool:=(List.range 11).any λk=>a==((2^k:Nat):Int)
theorem NT:(List.range 1025).all (λa=>a==0||((a &&& (a-1))==0)==((List.range 11).any λk=>a==2^k))=true:=by decide +kernel
theorem BJ {a:Nat}(h1:1<=a)(h2:a<=1024):((a &&& (a-1))==0)=((List.range 11).any λk=>a==2^k):=by
 have:=kR.1 NT a (zW.2 O);simp only[nX,zZ]at this;rcases this with h|h
 ·omega
 ·exact h
theorem Bn (a:Nat):gG (a:Int)=((List.range 11).any λk=>a==2^k):=by
 unfold gG
 congr 1
 funext k
 rw[mX];simp only[zZ];exact⟨λh=>by exact_mod_cast h,λh=>by exact_mod_cast h⟩
def fR (aF align:Int):Bool:=decide (1<=aF)&&(decide (aF<=1024)&&(decide (1<=align)&&(decide (align<=1024)&&gG align)))
def ZZ (n:Nat)(S:Nat->Bool)(aF align:Nat):Nat->Option Nat
 | 0=>none
 | k+1=>match ZZ n S aF align k with
  | some x=>some x
  | none=>if aF<=2^k/\align<=2^k then(Km n S k).head? else none
def Zz (n:Nat)(S:Nat->Bool)(aF align:Nat):Option Nat:=ZZ n S aF align 11
def jq (n:Nat)(S:Nat->Bool)(aF align:Int):Int:=if fR aF align then(match Zz n S aF.toNat align.toNat with|some _=>0|none=>6)else 1
def jo (n:Nat)(S:Nat->Bool)(aF align:Int):Nat:=if fR aF align then(match Zz n S aF.toNat align.toNat with|some x=>x|none=>0)else 0
def jr (n:Nat)(S:Nat->Bool)(aF align:Int):Nat->Bool:=if fR aF align then(match Zz n S aF.toNat align.toNat with|some x=>take S x (x+aF.toNat)|none=>S)else S
theorem Rn {n:Nat}{S:Nat->Bool}{m a k x:Nat}(h:ZZ n S m a k=some x):∀j,k<=j->ZZ n S m a j=some x:=by
 intro j hj
 induction j with
 | zero=>
  have:k=0:=by omega
  subst this;exact h
 | succ j ih=>
  by_cases e:k=j+1
  ·subst e;exact h
  ·simp only[ZZ,ih O]
theorem NJ (h:BH σ p n S sb ms){m a:Nat}(hn:ZZ n S m a ms.length=none):∀j,ms.length<=j->ZZ n S m a j=none:=by
 intro j hj
 induction j with
 | zero=>
  have:ms.length=0:=by omega
  rw[this]at hn;exact hn
 | succ j ih=>
  by_cases e:ms.length=j+1
  ·rw[←e];exact hn
  ·simp only[ZZ,ih O,Tr h (show ms.length<=j by omega)];simp
theorem Ox {k:Nat}(hpos:0<many n S k):∃x rest,Km n S k=x::rest:=by
 rw[←GI]at hpos
 match h:Km n S k with
 | []=>rw[h]at hpos;simp at hpos
 | x::r=>exact⟨x,r,rfl⟩
theorem l7 (h:BH σ p n S sb ms)(aF align:Int){R:Int->Int->Hp->Prop}
 (hR:∀σ',Ext (· ∈ ms) σ σ'->BH σ' p n (jr n S aF align) sb ms->R ((jo n S aF align:Nat):Int) (jq n S aF align) σ'):XS.c (aW p) aF align σ R:=by
 refine XS.o ?_;have hn2:=h.n2;have hl:=h.len;have G:fR aF align=false->R 0 1 σ:=λe=>by
  have:=hR σ (Ext.refl _ _);simp only[jr,jo,jq,e,zc,zz]at this;exact this h
 have g:¬(1<=aF/\aF<=1024/\1<=align/\align<=1024)->R 0 1 σ:=λhn=>G (by
  simp only[fR,←Bool.and_assoc,←vB];rw[zb];rfl;omega)
 refine yM h (cF rfl (bY.intro ?_));refine cH (λh1=>bY.intro (cJ rfl (bY.intro (cJ rfl (bY.intro (cJ rfl (cJ rfl (g O)))))))) λh1=>?_;refine bY.intro (cH (λh2=>bY.intro (cJ rfl (bY.intro (cJ rfl (cJ rfl (g O)))))) λh2=>?_);refine bY.intro (cH (λY=>bY.intro (cJ rfl (cJ rfl (g O)))) λY=>?_);refine bY.intro (cH (λh4=>cJ rfl (g O)) λh4=>?_);obtain⟨a,rfl⟩:=zk (show 0<=align by omega);obtain⟨m,rfl⟩:=zk (show 0<=aF by omega);refine bZ (m:=a-1) O O ?_;rw[jx O O];have L:((((a &&& (a-1):Nat):Int)) != 0) = !gG (a:Int):=by
  rw[Bn,←BJ O O];simp only[bne,Bool.not_inj_iff];rw[mX];simp only[zZ];omega
 rw[L];cases P:gG (a:Int)
 ·refine cJ rfl (G ?_);simp[fR,P]
 refine cF rfl ?_;have N:fR (m:Int) (a:Int)=true:=by
  simp only[fR,P,uG,zF,zR];omega
 refine aG (h.rB λcap=>?_);refine ZP (a:=bN) (λt F=>∃k:Nat,t=(k:Int)/\k<=ms.length/\F=σ/\ZZ n S m a k=none) (λt _=>ms.length-t.toNat) ⟨0,rfl,O,rfl,rfl⟩ ?_;rintro t F ⟨k,rfl,hk,rfl,r⟩;refine cH (λU=>?_) (λW=>?_)
 ·simp only at U;obtain⟨mm,V⟩:=h.get (k:=k) O;refine h.rM V (nf O (bY.intro ?_));have next:ZZ n S m a (k+1)=none->Ar .i64 ((k:Int)+1) λH=>(∃k:Nat,H=(k:Int)/\k<=ms.length/\F=F/\ZZ n S m a k=none)/\ms.length-H.toNat<ms.length-(k:Int).toNat:=
   λM=>bZ (m:=k+1) O O ⟨⟨k+1,rfl,O,rfl,M⟩,O⟩
  refine cH (λJ=>?_) (λZ=>cF rfl (next ?_))
  ·have j:m<=2^k/\a<=2^k:=by
    have:((if(a:Int)>(m:Int)then(a:Int)else(m:Int))<=((2^k:Nat):Int)):=J
    split at this<;>omega
   refine h.ln V ?_;refine cH (λhpos=>?_) (λhz=>next ?_)
   ·have E:0<many n S k:=by omega
    obtain⟨x,rest,Q⟩:=Ox E;obtain⟨q,rfl,hc⟩:=(Q1 h.jK (k:=k) (x:=x)).1 (by rw[Q];simp);have C:Zz n S m a=some (q*2^k):=by
     refine Rn (k:=k+1) ?_ 11 O;simp only[ZZ,r,zB j,Q,List.head?_cons]
    have hfb:=ZX h.jK (ZR.1 hc).1;obtain⟨B,hB,D⟩:=h.maps k mm V;have d:=Jo D hB.nodup h.jK;have hle:B.length<=1024:=by
     rw[d];have:=uR (p:=can S k) (l:=List.range n);simp only[many,oW]at *;omega
    refine PQ _ ?_;have e1:=Hy F (.cells #[.map (some mm)] JU (0,0));refine Tz MZ (e1.gN hB id) (NX D h.jK h.n2) O λs σ' ss e2 P hsl=>?_;have A:=P.trans (MF D hB.nodup h.jK);have u:=A.length_eq;simp only[za]at u;rw[GI,←d]at u;refine OX hsl O (m:=((q*2^k:Nat):Int)) (A.mem_iff.2 (by rw[Q];simp)) (λy hy=>?_) ?_
    ·have w:=A.mem_iff.1 hy;have b:=H4 n S k;rw[Q]at w b;simp only[zK,zT,zD]at w;rcases w with rfl|⟨z,hz,rfl⟩
     ·omega
     ·have:=(mA.1 b).1 z hz;omega
    ·have hB2:=(h.bK e1).bK e2;refine Io hB2 O (λy hy1 hy2=>Vb hc (Qh.2 O)) λY e3 X=>?_;have:=hR Y ((e1.to.trans e2.to).trans e3);simp only[jr,jo,jq,N,dC,C,zV]at this;exact this X
   ·simp only[ZZ,r,zB j];have:Km n S k=[]:=CG (by rw[GI];omega);rw[this];rfl
  ·have K:¬(m<=2^k/\a<=2^k):=by
    have:¬((if(a:Int)>(m:Int)then(a:Int)else(m:Int))<=((2^k:Nat):Int)):=Z
    split at this<;>omega
   simp only[ZZ,r,zA K]
 ·simp only at W;have:k=ms.length:=by omega
  subst this;have C:Zz n S m a=none:=NJ h r 11 O;have:=hR F (Ext.refl _ _);simp only[jr,jo,jq,N,dC,C,zV]at this;exact this h
end Go.Bu
namespace Go.Ar
open Go.Bu
structure AR where
 n:Nat
 room:Nat
 tb:List bX
 S:Nat->Bool
 st:List Nat
 ow:Nat->Nat
 cC:List (List cI)
 cE:List fU
 runs:List (Nat×Nat)
def AR.ck (A:AR)(k:Int):Bool:=decide (0<=k)&&decide (k<(A.tb.length:Int))
def Ui (A:AR)(r:Nat×Nat):AR:={A with ow:=kg A.ow r.1 r.2 0,st:=VX A.st r.1 r.2 2 [1],S:=QR A.n A.S r.1 r.2}
def VW (A:AR)(rs:List (Nat×Nat)):AR:=rs.foldl Ui A
def cY (sp:Sp)(size:Nat):Option Nat:=((List.range (sp.st.length/size)).map (· * size)).find? λs=>s != 0&&fI sp s size==0
def UY (st:List Nat)(a m:Nat):List Nat:=((List.range m).map (a + ·)).foldl (λl (h:Nat)=>jn l h) st
def U0 (A:AR)(sp:Sp)(size:Nat):Option (AR×Sp):=match cY sp size with
 | none=>none
 | some s=>some ({A with st:=UY A.st (s/16) (size/16),S:=QR A.n A.S s size},gF sp s size)
def Kc (m:Nat):Nat:=if m<=16 then 16 else if m<=32 then 32 else 64
def dT (A:AR)(x aF no:Nat):AR:={A with S:=take A.S x (x+aF),st:=VX A.st x aF 1 [2,3],ow:=kg A.ow x aF no}
def cZ (A:AR)(sp:Sp)(aF align no:Nat):Option Nat×AR×Sp:=match Zz A.n A.S aF align with
 | some x=>(some x,dT A x aF no,sp)
 | none=>match U0 A sp (Kc (max aF align))with
  | none=>(none,A,sp)
  | some (A',sp')=>match Zz A'.n A'.S aF align with
   | some x=>(some x,dT A' x aF no,sp')
   | none=>(none,A',sp')
def Qd (A:AR)(k:Int):Int:=if A.ck k then(match A.cE[k.toNat]? with
 | some t=>if t.bs=[]then 4 else 0
 | none=>5)else 1
def YP (A:AR)(k:Int):List Int:=if Qd A k=0 then(match A.cE[k.toNat]? with
 | some t=>t.bs.getLast?.getD []
 | none=>[])else[]
def ZW (A:AR)(k:Int):AR:=if Qd A k=0 then{A with cE:=A.cE.modify k.toNat fU.rem}else A
def HW (A:AR)(k:Int)(xs:List Int):Int:=if A.ck k then(match A.tb[k.toNat]?,A.cC[k.toNat]? with
 | some c,some ss=>if xs.length=c.batch then(if xs.all (λx=>eB c ss x==some true)then 0 else 8)else 1
 | _,_=>5)else 1
def Vp (A:AR)(k:Int)(xs:List Int):Bool:=decide (HW A k xs=0)&&(match A.cE[k.toNat]? with
 | some t=>decide (t.bs.length<A.room)
 | none=>false)
def Kf (A:AR)(k:Int)(xs:List Int):AR:=if Vp A k xs then{A with cE:=A.cE.modify k.toNat λt=>{t with bs:=t.bs++[xs]}}else A
def QM (A:AR)(k m:Int):Int:=if A.ck k then(if m<0 then 1 else 0)else 1
def VC (A:AR)(k m:Int):List Nat×List cI:=match A.tb[k.toNat]?,A.cC[k.toNat]? with
 | some c,some ss=>Ke c m.toNat ss
 | _,_=>([],[])
def Yy (A:AR)(k m:Int):List Nat:=if QM A k m=0 then(VC A k m).1 else[]
def YS (A:AR)(k m:Int):AR:=if QM A k m=0 then{A with cC:=A.cC.set k.toNat (VC A k m).2}else A
def Q3 (A:AR)(k:Int)(xs:List Int):Int:=if A.ck k then(match A.tb[k.toNat]?,A.cC[k.toNat]? with
 | some c,some ss=>iT c ss xs
 | _,_=>5)else 1
def Zj (A:AR)(k:Int)(xs:List Int):AR:=if Q3 A k xs=0 then(match A.tb[k.toNat]?,A.cC[k.toNat]? with
 | some c,some ss=>VW {A with cC:=A.cC.set k.toNat (cK (xs.foldl (fK c) ss))} ((Qc (xs.foldl (fK c) ss)).map λs=>(s,c.aF))
 | _,_=>A)else A
def KV (A:AR)(sp:Sp)(k:Int):Int:=if A.ck k then(match A.tb[k.toNat]?,A.cC[k.toNat]? with
 | some c,some ss=>(match (cZ A sp c.aF 1 (k.toNat+1)).1 with
  | some x=>pa c ss x
  | none=>6)
 | _,_=>5)else 1
def cR (A:AR)(sp:Sp)(k:Int):AR×Sp:=if A.ck k then(match A.tb[k.toNat]?,A.cC[k.toNat]? with
 | some c,some ss=>(match cZ A sp c.aF 1 (k.toNat+1)with
  | (some x,A',sp')=>(if pa c ss x=0 then{A' with cC:=A'.cC.set k.toNat (iC c ss x)}else A',sp')
  | (none,A',sp')=>(A',sp'))
 | _,_=>(A,sp))else(A,sp)
def Ko (m a:Int):Bool:=decide (1<=m)&&(decide (m<=64)&&(a==1||(a==2||(a==4||(a==8||a==16)))))
def QH (A:AR)(sp:Sp)(m a:Int):Int:=if Ko m a then(if(cZ A sp m.toNat a.toNat 41).1.isSome then 0 else 6)else 1
def Qb (A:AR)(sp:Sp)(m a:Int):Nat:=if Ko m a then(cZ A sp m.toNat a.toNat 41).1.getD 0 else 0
def cD (A:AR)(sp:Sp)(m a:Int):AR×Sp:=if Ko m a then(match cZ A sp m.toNat a.toNat 41 with
 | (some x,A',sp')=>({A' with runs:=mset2 A'.runs x m.toNat},sp')
 | (none,A',sp')=>(A',sp'))else(A,sp)
where mset2 (l:List (Nat×Nat)) (x m:Nat):List (Nat×Nat):=if l.any (λr=>r.1==x)then l.map (λr=>if r.1==x then(x,m)else r)else l++[(x,m)]
def qG (A:AR)(x:Int):Option (Nat×Nat):=A.runs.find? λr=>(r.1:Int)==x
def Va (A:AR)(x:Int):Int:=if(qG A x).isSome then 0 else 8
def QL (A:AR)(x:Int):AR:=match qG A x with
 | some r=>Ui {A with runs:=A.runs.filter λq=>!((q.1:Int)==x)} r
 | none=>A
def sC (A:AR)(p:Nat):Option (Nat×Nat):=A.runs.find? λr=>decide (r.1<=p)&&decide (p<r.1+r.2)
def Uj (A:AR)(x:Int):Option (Int×Nat):=if x<0 then none else
 let p:=x.toNat/256
 let no:=if p<1024 then A.ow p else 0
 if no=0 then none else if no=41 then(sC A p).map λr=>(-1,r.1*256)else
 match A.tb[no-1]?,A.cC[no-1]? with
 | some c,some ss=>(r7 c ss x).map λa=>(((no-1:Nat):Int),a)
 | _,_=>none
def xh (A:AR)(x:Int):Bool:=match Uj A x with
 | some (k,a)=>if(a:Int)=x then(if k<0 then true else(match A.tb[k.toNat]?,A.cC[k.toNat]? with
  | some c,some ss=>eB c ss x==some true
  | _,_=>false))else false
 | none=>false
def UZ (A:AR)(p:Int):Bool:=decide (0<=p)&&decide (A.st.getD p.toNat 0≠0)
def QS (A:AR)(k:Nat):AR:=match A.tb[k]?,A.cC[k]? with
 | some c,some ss=>VW {A with cC:=A.cC.set k (cK ss)} ((Qc ss).map λs=>(s,c.aF))
 | _,_=>A
def YO (A:AR):AR:=(List.range A.tb.length).foldl QS A
def fD (p:AR×Sp)(r:Nat×Nat):AR×Sp:=({p.1 with st:=VX p.1.st r.1 r.2 3 [2]},dX p.2 r.1 r.2 1)
def Ud (A:AR)(want:Int):List (Nat×Nat):=HE (YO A).st want
def dU (A:AR)(sp:Sp)(want:Int):AR×Sp:=if want<0 then(A,sp)else(Ud A want).foldl fD (YO A,sp)
def kH (A:AR)(want:Int):Nat:=if want<0 then 0 else((Ud A want).map (·.2)).sum
def Vx (p:AR×Sp)(h:Nat):AR×Sp:=({p.1 with st:=jP p.1.st h,S:=kc p.1.n p.1.S ((h*16:Nat):Int) 16},dX p.2 ((h*16:Nat):Int) 16 0)
def eL (A:AR)(sp:Sp):AR×Sp:=(Ks A.st 0).foldl Vx (A,sp)
def vj (A:AR):Nat:=(Ks A.st 0).length
def Kz (A:AR)(k:Nat):AR:=match A.cE[k]? with
 | some t=>t.out.foldl (λA' xs=>Zj A' k xs) {A with cE:=A.cE.set k t.tick}
 | none=>A
def Hl (A:AR):AR:=(List.range A.cE.length).foldl Kz A
def Ul (A:AR):Nat:=((A.tb.zip A.cE).map λx=>x.2.bs.flatten.length*x.1.size).sum
def p9 (A:AR):Nat:=((A.tb.zip A.cC).map λx=>KA x.2*x.1.size).sum
def UA (A:AR):Nat:=((A.tb.zip A.cC).map λx=>x.2.length*x.1.tail).sum
def Up (A:AR):Nat:=((A.tb.zip A.cC).map λx=>x.2.length*x.1.aF).sum
def Uq (A:AR):Nat:=(A.runs.map (·.2)).sum
end Go.Ar
namespace Go.Ar
open Go.Vc (bV dE cT)
inductive Ph where
 | take (k:Nat)
 | cO (k w:Nat)
 | cQ (k w:Nat)
 | grow (k w:Nat)
 | fill
 | eT (m:Nat)
 | find (x:Int)
 | put (k:Nat) (x:Int)
 | back
 | dK (s a:Int)
 | drain
 deriving DecidableEq
structure Th where
 ls:List Li
 bP:List Bt
 ph:Option Ph
structure Cf where
 aF:Nat
 iv:Nat
 threads:Nat
 dB:Nat
 room:Nat
abbrev Bk:=Int×Int×Int×Int
structure Hw where
 tb:List bX
 cf:Cf
 sp:Sp
 bT:List AR
 bS:List Th
 live:List (Int×Bk)
def Ye (bT:List AR)(x:Int):Int:=if x<0 then -1 else match bT.findIdx? (λA=>UZ A (x/256))with
 | some i=>(i:Int)
 | none=>-1
def Hw.own (H:Hw)(t:Nat):Nat:=t%H.bT.length
def Hw.eA (H:Hw)(t:Nat)(f:Th->Th):Hw:={H with bS:=H.bS.modify t f}
def Hw.cB (H:Hw)(k:Nat)(A:AR):Hw:={H with bT:=H.bT.set k A}
def VP (H:Hw)(x size cls:Int):Hw:={H with live:=dE H.live x (x,size,cls,Ye H.bT x)}
def Q0 (H:Hw)(t k:Nat)(xs:List Int):Hw:=H.eA t λh=>{h with bP:=h.bP++[(k,xs)]}
def kO (H:Hw)(t:Nat):Option Ph:=match H.bS[t]? with
 | some h=>if h.bP=[]then none else some .back
 | none=>none
def Z1 (bT:List AR)(xs:List Int)(a:Nat):List Int:=xs.filter λx=>Ye bT x==(a:Int)
def Vk (H:Hw)(k:Nat)(part:Nat->List Int)(l:List Nat):Hw:=l.foldl (λH a=>match H.bT[a]? with
 | some A=>if part a=[]then H else H.cB a (Zj A (k:Int) (part a))
 | none=>H) H
def Gk (H:Hw)(own k:Nat)(xs:List Int):Hw:=match H.bT[own]? with
 | some A=>if(Z1 H.bT xs own).length=xs.length/\Vp A (k:Int) xs=true then H.cB own (Kf A (k:Int) xs)
  else Vk (if(Z1 H.bT xs own).length=xs.length then H.cB own (Kf A (k:Int) xs)else H) k (Z1 H.bT xs) (List.range H.bT.length)
 | none=>H
abbrev uY:=Hw×Option Ph×Int×Int
def my (H:Hw)(x:Int):Int:=if 0<=Ye H.bT x then(match H.bT[(Ye H.bT x).toNat]? with
 | some A=>(match Uj A x with
  | some (k,y)=>if 0<=k/\(y:Int)=x then 9 else 8
  | none=>8)
 | none=>8)else 8
def He (H:Hw)(t:Nat)(x:Int):uY:=match bV H.live x with
 | none=>(H,none,0,my H x)
 | some b=>if b.2.2.1<0 then({H with live:=cT H.live x},some (.dK (x/256) b.2.2.2),0,0)
  else(Q0 {H with live:=cT H.live x} t b.2.2.1.toNat [x],some (.put b.2.2.1.toNat x),0,0)
def Hw.kE (H:Hw)(t:Nat):Th:=H.bS.getD t ⟨[],[],none⟩
def Hw.cls (H:Hw)(k:Nat):bX:=H.tb.getD k ⟨8,1,1⟩
def Hw.eN (H:Hw)(t:Nat):AR:=H.bT.getD (H.own t) ⟨0,0,[],λ_=>false,[],λ_=>0,[],[],[]⟩
def Th.li (h:Th)(k:Nat):Li:=h.ls.getD k iD
def Th.iL (h:Th)(k:Nat)(l:Li):Th:={h with ls:=h.ls.set k l}
def iJ (H:Hw)(t k:Nat)(x:Int):Hw:=
 let c:=H.cls k
 let l:=(H.kE t).li k
 let H1:=H.eA t λh=>h.iL k (dS c x l).2
 let H2:=if(dS c x l).1=[]then H1 else Q0 H1 t k (dS c x l).1
 let H3:=H2.eA t λh=>{h with bP:=h.bP.drop 1}
 if H.cf.dB<QB H.tb (H3.kE t).ls then H3.eA t λh=>{h with ls:=Kg KQ H.tb h.ls,bP:=h.bP++Ki KQ H.tb h.ls}else H3
def Wt (H:Hw)(t:Nat):Ph->uY
 | .take k=>match Kj (H.cls k) ((H.kE t).li k)with
  | (some x,l)=>(VP (H.eA t λh=>h.iL k l) x ((H.cls k).size:Int) (k:Int),none,x,0)
  | (none,l)=>(H.eA t λh=>h.iL k l,some (.cO k (p8 (H.cls k) l)),0,0)
 | .cO k w=>if w=(H.cls k).batch then(if Qd (H.eN t) (k:Int)=0 then(Q0 (H.cB (H.own t) (ZW (H.eN t) (k:Int))) t k (YP (H.eN t) (k:Int)),some .fill,0,0)else(H,some (.cQ k w),0,0))else(H,some (.cQ k w),0,0)
 | .cQ k w=>
  let H1:=H.cB (H.own t) (YS (H.eN t) (k:Int) (w:Int))
  if Yy (H.eN t) (k:Int) (w:Int)=[]then(H1,some (.grow k w),0,0)else(Q0 H1 t k ((Yy (H.eN t) (k:Int) (w:Int)).map λ(x:Nat)=>(x:Int)),some .fill,0,0)
 | .grow k w=>
  let r:=cR (H.eN t) H.sp (k:Int)
  let H1:={H.cB (H.own t) r.1 with sp:=r.2}
  if KV (H.eN t) H.sp (k:Int)=0 then(H1,some (.cQ k w),0,0)else(H1,none,0,KV (H.eN t) H.sp (k:Int))
 | .fill=>match (H.kE t).bP with
  | (k,x::xs)::_=>(VP (H.eA t λh=>{ls:=h.ls.set k (eO xs.reverse (h.li k)),bP:=[],ph:=h.ph}) x ((H.cls k).size:Int) (k:Int),none,x,0)
  | _=>(H,none,0,0)
 | .eT m=>
  let r:=cD (H.eN t) H.sp (m:Int) 1
  let H1:={H.cB (H.own t) r.1 with sp:=r.2}
  let x:Int:=((Qb (H.eN t) H.sp (m:Int) 1*256:Nat):Int)
  if QH (H.eN t) H.sp (m:Int) 1=0 then(VP H1 x ((m*256:Nat):Int) (-1),none,x,0)else(H1,none,0,QH (H.eN t) H.sp (m:Int) 1)
 | .find x=>He H t x
 | .put k x=>(iJ H t k x,kO (iJ H t k x) t,0,0)
 | .back=>match (H.kE t).bP with
  | (k,xs)::r=>
   let H1:=Gk (H.eA t λh=>{h with bP:=r}) (H.own t) k xs
   (H1,kO H1 t,0,0)
  | []=>(H,none,0,0)
 | .dK s a=>(match H.bT[a.toNat]? with
  | some A=>H.cB a.toNat (QL A s)
  | none=>H,none,0,0)
 | .drain=>
  let H1:=H.eA t λh=>{h with ls:=Kg Z2 H.tb h.ls,bP:=Ki Z2 H.tb h.ls}
  (H1,kO H1 t,0,0)
end Go.Ar
namespace Go.Proofs
open Go.Vc
set_option maxRecDepth 100000
def ZK.h:Hn:=.q .o1 (.q (.q (.cV (.seq [.op,.op,.op,.op,.dA false 3 (RI.ops 3)])) .aK) (.q (.q .o3 (.k (.loop [(15,.I)] (.q .o1 (.q (.c .l .l) (.q (.k (.q .o6 (.q (.cV (.ic true [1] [(37,.one .b)] (.take 0 (.all [(1,.take 2 (.take 3 (.split 23 (.take 4 (.take 5 (.take 6 (.take 7 (.take 8 (.take 9 (.take 10 (.take 11 (.take 12 (.take 13 (.take 14 (.take 15 (.take 16 (.take 17 (.done))))))))))))))) (.take 4 (.take 5 (.take 6 (.split 26 (.take 7 (.take 9 (.take 10 (.take 11 (.take 12 (.take 13 (.all [(8,.all [(14,.take 15 (.take 16 (.take 17 (.done))))]),(14,.all [(8,.take 15 (.take 16 (.take 17 (.done))))])]))))))) (.take 7 (.take 8 (.take 9 (.take 10 (.take 11 (.take 12 (.take 13 (.take 14 (.take 15 (.take 16 (.take 17 (.done)))))))))))))))))))])))) .aK))) .o2)))))) .aM))
theorem ZK.o {a:Sl}{b:Hp}{c:aO}(d:bY (λd e=>If d (c false e) (WR [bN] (λf=>f 0 e) λg (h:Int) i=>If (h<((a.len:Nat):Int)) (Ix a.a a.len h 3 λj=>aQ j 0 i λk=>aQ j 1 i λl=>aQ j 2 i λm=>aV #[.I 0,.I 0,.I 0] 31 i λn o=>aR n 0 (.I k) o λp=>aR n 1 (.I l) p λq=>aR n 2 (.I m) q λr=>Jn [.b] (λ(s:Bool) t=>If s (c false t) (bL (h+1) λu=>g u t)) λv=>dW r λw=>aS w n 0 λx=>aS w n 1 λy=>aS w n 2 λz=>QF.c x y z r λaa ab=>If (!aa) (v true ab) (If (h>0) (bL (h-1) λac=>Ix a.a a.len ac 3 λad=>(aQ n 0 ab λae=>aQ ad 0 ab λaf=>v (decide (ae<=af)) ab) ∧ (aQ ad 0 ab λag=>aQ n 0 ab λah=>v (decide (ah<=ag)) ab)) (v false ab))) (c true i))) λai=>If (((a.len:Nat):Int)<1) (ai true b) (ai (decide (((a.len:Nat):Int)>40)) b)):ZK.c a b c:=Wa Tryz.func40 (x:=ZK.h) (R0 d)
def Z5.h:Hn:=.q .o4 (.q (.k (.q .o4 (.c .aL (.q (.cV (.ic true [] [(13,.one .b)] (.tk [0,1,2] (.split 16 (.tk [3,4,5,6,7,8,9,10,11,12,13,14,15,16] (.done)) (.tk [3,4,5,6] (.split 20 (.tk [7,8,9,10,11,12,13,14,15,16] (.done)) (.tk [7,8,9,10] (.split 24 (.tk [11,12,13,14,15,16] (.done)) (.take 11 (.take 13 (.all [(12,.take 14 (.take 15 (.take 16 (.done))))]))))))))))) .aJ)))) (.q .o4 (.q (.q .o2 .aJ) (.q .o3 .l))))
theorem Z5.o {a:Sl}{b c:Int}{d:Hp}{e:Int->Int->Hp->Prop}(f:aV #[.I b] 3 d λf g=>aV #[.I c] 3 g λh i=>ZK.c a i λj k=>If (!j) (e 0 2 k) (Jn [.b] (λ(l:Bool) m=>If l (e 0 1 m) (Wl.c a ⟨80,#[],#[.pointer (some f),.pointer (some h)]⟩ m λn o=>If (n<0) (e 0 4 o) (e n 0 o))) λp=>dW k λq=>gT q bN f λ(r:Int)=>If (r<1) (p true k) (gT q bN h λ(s:Int)=>If (s<1) (p true k) (gT q bN h λ(t:Int)=>If (t>256) (p true k) (gT q bN h λ(u:Int)=>gT q bN h λ(v:Int)=>Ql.c u k λw x=>And (q x) <| p (w != v) x))))):Z5.c a b c d e:=Wa Tryz.func41 (x:=Z5.h) (R0 f)
def Zh.h:Hn:=.q .o3 (.q (.q .o3 .aJ) (.q .o4 .l))
theorem Zh.o {a b c:Int}{d:Hp}{e:Int->Int->Hp->Prop}(f:aV #[.I a,.I b,.I c] 31 d λf g=>aQ f 0 g λh=>aQ f 1 g λi=>aQ f 2 g λj=>QF.c h i j g λk l=>If (!k) (e 0 1 l) (aQ f 0 l λm=>aQ f 1 l λn=>aQ f 2 l λo=>ZO.c m n o l λp q=>e p 0 q)):Zh.c a b c d e:=Wa Tryz.func42 (x:=Zh.h) (R0 f)
def Qw.h:Hn:=.q .o3 (.q (.q .o3 .aJ) (.q (.cV (.held true [] (.tk [0,1,2,3,5,6] (.all [(4,.tk [7,8,9,10] (.done))])))) .l))
theorem Qw.o {a b c:Int}{d:Hp}{e:Int->Int->Hp->Prop}(f:aV #[.I a,.I b,.I c] 31 d λf g=>aQ f 0 g λh=>aQ f 1 g λi=>aQ f 2 g λj=>QF.c h i j g λk l=>If (!k) (e 0 1 l) (dW l λm=>aS m f 1 λn=>bL (n*256) λo=>aS m f 0 λp=>aS m f 1 λq=>aS m f 2 λr=>aS m f 0 λs=>ZO.c p q r l λt u=>And (m u) <| bL (t*s) λv=>bL (o-v) λw=>e w 0 u)):Qw.c a b c d e:=Wa Tryz.func43 (x:=Qw.h) (R0 f)
def QF.h:Hn:=.q .o2 (.q (.cV (.seq [.op,.op,.op,.op,.dA true 3 (RI.ops 3),.op,.dA true 4 (RI.ops 4),.op,.dA true 3 (RI.ops 3),.op,.dA true 3 (RI.ops 3),.op,.dA true 6 (RI.ops 6),.op,.dA true 3 (RI.ops 3),.op,.dA true 3 (RI.ops 3),.op])) .l)
theorem QF.o {a b c:Int}{d:Hp}{e:aO}(f:aV #[.I a,.I b,.I c] 31 d λf g=>aQ f 0 g λh=>bY (λi j=>bY (λk l=>bY (λm n=>bY (λo p=>bY (λq r=>bY (λs t=>bY (λu v=>e u v) λw=>If s (aQ f 2 t λx=>w (decide (x<=32)) t) (w false t)) λy=>If q (aQ f 2 r λz=>y (decide (z≥1)) r) (y false r)) λaa=>If o (aQ f 1 p λab=>bL (ab*256) λac=>aQ f 0 p λad=>aa (decide (ac≥ad)) p) (aa false p)) λae=>If m (aQ f 1 n λaf=>ae (decide (af<=4)) n) (ae false n)) λag=>If k (aQ f 1 l λah=>ag (decide (ah≥1)) l) (ag false l)) λai=>If i (aQ f 0 j λaj=>Nz 8 <| ai ((aj.tmod 8)==0) j) (ai false j)) λak=>If (h≥8) (aQ f 0 g λal=>ak (decide (al<=512)) g) (ak false g)):QF.c a b c d e:=Wa Tryz.func77 (x:=QF.h) (R0 f)
def Ql.h:Hn:=.q .o1 (.q .o1 (.q (.q .o1 (.k (.loop [(3,.I),(4,.I)] (.q (.q .o3 (.c .l .l)) (.q (.k .o2) .o3))))) .aL))
theorem Ql.o {a:Int}{b:Hp}{c:aN}(d:WR [bN,bN] (λd=>d 0 1 b) λe (f:Int) (g:Int) h=>If (g<=a) (bL (g*2) λi=>e g i h) (c f h)):Ql.c a b c:=Wa Tryz.func78 (x:=Ql.h) (R0 d)
def Z3.h:Hn:=.q .o2 (.q (.cV (.seq [.op,.op,.op,.op,.op,.dA true 5 (RI.ops 5),.op])) .l)
theorem Z3.o {a b c:Int}{d e:Addr}{f:Hp}{g:aO}(h:aV #[.I a,.I b,.I c] 31 f λh i=>aQ h 0 i λj=>bM d i λk=>bY (λl m=>g l m) λn=>If (j≥k) (aQ h 0 i λo=>bM e i λp=>Nz p <| n ((o.tmod p)==0) i) (n false i)):Z3.c a b c d e f g:=Wa Tryz.func80 (x:=Z3.h) (R0 h)
def ZO.h:Hn:=.q .o2 (.q .o7 .l)
theorem ZO.o {a b c:Int}{d:Hp}{e:aN}(f:aV #[.I a,.I b,.I c] 31 d λf g=>aQ f 1 g λh=>bL (h*256) λi=>aQ f 0 g λj=>Nz j<|bL (i.tdiv j) λk=>e k g):ZO.c a b c d e:=Wa Tryz.func81 (x:=ZO.h) (R0 f)
end Go.Proofs
namespace Go.Ar
open Go Go.Vc Go.Proofs
variable {σ:Hp}
theorem Cg (x y z:Int){R:aO}(hR:∀σ',bO σ σ'->R (UH x y z) σ'):QF.c x y z σ R:=by
 refine QF.o ?_;refine nw (cs:=[.int .i64 x,.int .i64 y,.int .i64 z]) λh A e b=>?_;have r:UH x y z=false->R false h:=λd=>d▸hR h e;have a:¬(8<=x/\x<=512/\x%8=0/\1<=y/\y<=4/\x<=y*256/\1<=z/\z<=32)->R false h:=λd=>r (by rw[←rR,HU];exact d);refine b.rI rfl (bY.intro ?_);refine cH (λi=>b.rI rfl (bY.intro ?_)) λi=>?_
 case refine_2=>
  iterate 6 refine bY.intro (cF rfl ?_)
  exact a O
 refine cH (λm=>b.rI rfl (nz aB (bY.intro ?_))) λm=>?_
 case refine_2=>
  iterate 5 refine bY.intro (cF rfl ?_)
  exact a O
 rw[Q4 O];refine cN (λg=>b.rI rfl (bY.intro ?_)) λg=>?_
 case refine_2=>
  have:¬x%8=0:=by simpa using g
  iterate 4 refine bY.intro (cF rfl ?_)
  exact a O
 have w:x%8=0:=by simpa using g
 refine cH (λj=>b.rI rfl (bY.intro ?_)) λj=>?_
 case refine_2=>
  iterate 3 refine bY.intro (cF rfl ?_)
  exact a O
 refine cH (λs=>b.rI rfl (ar O O (b.rI rfl (bY.intro ?_)))) λs=>?_
 case refine_2=>
  iterate 2 refine bY.intro (cF rfl ?_)
  exact a O
 refine cH (λp=>b.rI rfl (bY.intro ?_)) λp=>?_
 case refine_2=>exact bY.intro (cF rfl (a O))
 refine cH (λu=>b.rI rfl ?_) λu=>a O;have:decide (z<=32)=UH x y z:=by
  rw[mX,HU];simp;omega
 rw[this];exact hR h e
theorem IZ {c:bX}(hc:c.ok){R:aN}(hR:∀σ',bO σ σ'->R (c.n:Int) σ'):ZO.c c.size c.aF c.batch σ R:=by
 refine ZO.o ?_;have h:=hc;unfold bX.ok at h;refine nw (cs:=[.int .i64 c.size,.int .i64 c.aF,.int .i64 c.batch]) λh b e a=>?_;refine a.rI rfl (bZ (m:=c.aF*256) aA O (a.rI rfl (nz O ?_)));refine bZ (m:=c.n) ?_ (by have:=hc.jX;omega) (hR _ e);rw[Xq O];simp[bX.n]
theorem UW (x y z:Int){R:Int->Int->Hp->Prop}(h1:∀c:bX,c.ok->x=c.size->y=c.aF->z=c.batch->∀σ',bO σ σ'->R (c.n:Int) 0 σ')(h0:UH x y z=false->∀σ',bO σ σ'->R 0 1 σ'):Zh.c x y z σ R:=by
 refine Zh.o ?_;refine nw (cs:=[.int .i64 x,.int .i64 y,.int .i64 z]) λh j e b=>?_;refine b.rI rfl (b.rI rfl (b.rI rfl (Cg _ _ _ λm d=>?_)));have a:=d.cA b id;cases hk:UH x y z
 ·exact cJ rfl (h0 hk _ (e.trans d))
 ·obtain⟨c,g,_,rfl,rfl,rfl⟩:=yR hk;exact cF rfl (a.rI rfl (a.rI rfl (a.rI rfl (IZ g λp i=>h1 c g rfl rfl rfl _ ((e.trans d).trans i)))))
theorem F6 {c:bX}(hc:c.ok){R:Int->Int->Hp->Prop}(hR:∀σ',bO σ σ'->R (c.tail:Int) 0 σ'):Qw.c c.size c.aF c.batch σ R:=by
 refine Qw.o ?_;have h:=hc;unfold bX.ok at h;refine nw (cs:=[.int .i64 c.size,.int .i64 c.aF,.int .i64 c.batch]) λp r e g=>?_;refine g.rI rfl (g.rI rfl (g.rI rfl (Cg _ _ _ λs i=>?_)));rw[(UE c).2 hc];have d:=i.cA g id;refine cF rfl ?_;refine⟨λb=>bW b σ.size [.int .i64 c.size,.int .i64 c.aF,.int .i64 c.batch],d,⟨_,λb a=>by rw[add_lit,a.cell];rfl,?_⟩⟩;refine bZ (m:=c.aF*256) aA O ?_;refine⟨_,λb a=>by rw[add_lit,a.cell];rfl,⟨_,λb a=>by rw[add_lit,a.cell];rfl,⟨_,λb a=>by rw[add_lit,a.cell];rfl,⟨_,λb a=>by rw[add_lit,a.cell];rfl,?_⟩⟩⟩⟩;refine IZ hc λw j=>⟨j.cA d id,?_⟩;have u:=c.si;refine bZ (m:=c.n*c.size) aA O (bZ (m:=c.tail) (by unfold bX.tail;omega) (by unfold bX.tail;omega) (hR _ ((e.trans i).trans j)))
end Go.Ar
namespace Go.Proofs
open Go.Vc
set_option maxRecDepth 100000
def Ya.h:Hn:=.q .o1 (.q (.q (.cV (.seq [.op,.op,.op,.op,.dA false 2 [.op,.op],.op,.dA false 7 (RI.ops 7)])) .aK) (.q .o8 .l))
theorem Ya.o {a:R2}{b:Int}{c:Hp}{d:aN}(e:WY.c a c λe f=>bY (λg h=>bY (λi j=>If i (d (-1) j) (bE a 0 j λl=>Ix l.a l.len b 1 λm=>bM m j λn=>d n j)) λo=>If g (o true h) (bE a 0 h λq=>o (decide (b≥((q.len:Nat):Int))) h)) λr=>If (!e) (r true f) (r (decide (b<0)) f)):Ya.c a b c d:=Wa Tryz.func143 (x:=Ya.h) (R0 e)
def WY.h:Hn:=.q .o1 (.q (.cV (.seq [.op,.op,.op,.dA true 6 (RI.ops 6),.op])) .l)
theorem WY.o {a:R2}{b:Hp}{c:aO}(d:bY (λd e=>c d e) λf=>If (!a.isNone) (bE a 0 b λh=>f (decide (((h.len:Nat):Int)>0)) b) (f false b)):WY.c a b c:=Wa Tryz.func149 (x:=WY.h) (R0 d)
def KE.h:Hn:=.q .o2 (.q (.q (.cV (.seq [.op,.op,.op,.dA false 2 [.op,.op],.op,.dA false 3 (RI.ops 3)])) .aJ) (.q .o6 .l))
theorem KE.o {a:Int}{b:Hp}{c:Option Addr->Int->Hp->Prop}(d:bY (λd e=>bY (λf g=>If f (c none 1 g) (Mk a a 8 3 [.I 0] g λh i=>aV #[.slice h.a h.len h.cap] 231 i λj k=>c (some j) 0 k)) λl=>If d (l true e) (Nz 16 <| l ((a.tmod 16) != 0) e)) λm=>If (a<16) (m true b) (m (decide (a>1024)) b)):KE.c a b c:=Wa Tryz.func155 (x:=KE.h) (R0 d)
def YB.h:Hn:=.q .o3 (.scope (.q (.k (.q .o4 (.c .aL (.q .o3 .aJ)))) (.q .o1 (.q (.q .o3 (.k (.loop [(6,.one .s),(23,.I)] (.q .o1 (.q (.c .l .l) (.q (.k (.q .o2 (.q .o5 (.c .o5 .l)))) .o2)))))) (.q .o3 (.q .o1 (.q .o1 (.q .l (.q (.q .o3 (.k (.loop [(8,.one .s),(9,.I),(41,.I)] (.q .o1 (.q (.c .l .l) (.q (.k (.q .o3 (.q .o1 (.k (.loop [(8,.one .s),(9,.I),(12,.I)] (.q (.q .o2 (.c .l .l)) (.q (.k (.q (.q .o3 (.c .l .l)) (.q .o1 (.q (.k (.loop [(13,.I)] (.q (.q (.cV (.seq [.op,.op,.op,.op,.op,.dA true 9 (RI.ops 9)])) (.c .l .l)) (.k .o3)))) (.q .o2 (.c (.q .fW (.q .o4 .o4)) .l)))))) .o3))))))) .o2)))))) (.q .o3 .l))))))))))
theorem YB.o {a:R2}{b:Int}{c:Hp}{d:Sl->Int->Hp->Prop}(e:aV #[.pointer a] 172 c λe f=>fX e f λg=>WY.c g f λh i=>If (!h) (d ⟨none,0,0⟩ 5 i) (If (b<0) (d ⟨none,0,0⟩ 1 i) (fX e i λj=>XR.c j i λk l=>WR [.s,bN] (λm=>m ⟨none,0,0⟩ 0 l) λn (o:Sl) (p:Int) q=>If (p<k) (fX e q λr=>Xk.c r p q λs t=>ZQ.c s 2 t λu v=>If (u>0) (aV #[.I p] 3 v λw x=>App o 1 8 3 [.I 0] ⟨some w,1,1⟩ x λy z=>bL (p+1) λaa=>n y aa z) (bL (p+1) λab=>n o ab v)) (WO.c o ⟨233,#[],#[.pointer (some e)]⟩ q λac=>WR [.s,bN,bN] (λad=>ad ⟨none,0,0⟩ 0 0 ac) λae (af:Sl) (ag:Int) (ah:Int) ai=>If (ah<((o.len:Nat):Int)) (Ix o.a o.len ah 1 λaj=>bM aj ai λak=>WR [.s,bN,bN] (λal=>al af ag 0 ai) λam (an:Sl) (ao:Int) (ap:Int) aq=>If (ap<16) (If (ao≥b) (d an 0 aq) (WR [bN] (λar=>ar 0 aq) λau (av:Int) aw=>bL (ap+av) λax=>bY (λay az=>If ay (bL (av+1) λa0=>au a0 az) (If (av>0) (bL (ak*16) λa1=>bL (a1+ap) λa2=>aV #[.I a2,.I av] 92 az λa3 a4=>App an 2 16 92 [.I 0,.I 0] ⟨some a3,1,1⟩ a4 λa5 a6=>bL (ao+av) λa7=>bL (ap+av) λa8=>bL (a8+1) λa9=>am a5 a7 a9 a6) (bL (ap+1) λba=>am an ao ba az))) λbb=>If (ax<16) (fX e aw λbc=>Xk.c bc ak aw λbd be=>bL (ap+av) λbf=>Ix bd.a bd.len bf 1 λbg=>bM bg be λbh=>bb (bh==2) be) (bb false aw))) (bL (ah+1) λbi=>ae an ao bi aq)) (d af 0 ai))))):YB.c a b c d:=Wa Tryz.func191 (x:=YB.h) (R0 e)
def W9.h:Hn:=.q .o1 (.q .o6 .l)
theorem W9.o {a:R2}{b c:Int}{d:Hp}{e:aN}(f:aV #[.I 2] 3 d λf g=>Xt.c a b c 3 ⟨some f,1,1⟩ g λh i=>e h i):W9.c a b c d e:=Wa Tryz.func192 (x:=W9.h) (R0 f)
def YC.h:Hn:=.q .o1 (.q .o3 .l)
theorem YC.o {a:R2}{b:Hp}{c:Sl->Hp->Prop}(d:X6.c a 0 b λd e=>c d e):YC.c a b c:=Wa Tryz.func194 (x:=YC.h) (R0 d)
def Xh.h:Hn:=.q .o1 (.q .o8 (.q (.k (.q .o3 (.c .aL (.q .o4 .aK)))) (.q .o2 .aM)))
theorem Xh.o {a:R2}{b:Int}{c:Hp}{d:aN}(e:X3.c a b c λe f g=>If (f != 0) (d f g) (Q9.c e g λh i=>If (!h) (d 5 i) (Qu.c e 0 i λj=>d 0 j))):Xh.c a b c d:=Wa Tryz.func195 (x:=Xh.h) (R0 e)
def XG.h:Hn:=.q .o1 (.q .o6 .l)
theorem XG.o {a:R2}{b c:Int}{d:Hp}{e:aN}(f:aV #[.I 1] 3 d λf g=>Xt.c a b c 2 ⟨some f,1,1⟩ g λh i=>e h i):XG.c a b c d e:=Wa Tryz.func225 (x:=XG.h) (R0 f)
def XR.h:Hn:=.q .o1 (.q .o7 .l)
theorem XR.o {a:R2}{b:Hp}{c:aN}(d:bQ a λd=>aX d 0 b λe=>Nz 16<|bL (((e.len:Nat):Int).tdiv 16) λf=>c f b):XR.c a b c:=Wa Tryz.func229 (x:=XR.h) (R0 d)
def ZQ.h:Hn:=.q .o1 (.q .o1 (.q (.q .o3 (.k (.loop [(5,.I),(10,.I)] (.q .o1 (.q (.c .l .l) (.q (.k (.q .o3 (.q .o3 (.c .o3 .l)))) .o2)))))) .aL))
theorem ZQ.o {a:Sl}{b:Int}{c:Hp}{d:aN}(e:WR [bN,bN] (λe=>e 0 0 c) λf (g:Int) (h:Int) i=>If (h<((a.len:Nat):Int)) (Ix a.a a.len h 1 λj=>bM j i λk=>If (k==b) (bL (g+1) λl=>bL (h+1) λm=>f l m i) (bL (h+1) λn=>f g n i)) (d g i)):ZQ.c a b c d:=Wa Tryz.func230 (x:=ZQ.h) (R0 e)
def Xk.h:Hn:=.q .o1 (.q (.o 11) .l)
theorem Xk.o {a:R2}{b:Int}{c:Hp}{d:Sl->Hp->Prop}(e:bQ a λe=>aX e 0 c λf=>bL (b*16) λg=>bL (b+1) λh=>bL (h*16) λi=>eX f 1 g i (f.cap:Nat) λj=>d j c):Xk.c a b c d:=Wa Tryz.func231 (x:=Xk.h) (R0 e)
def XN.h:Hn:=.q .o1 (.q (.cV (.held true [] (.tk [0,1,3,4] (.all [(2,.all [(5,.take 6 (.take 7 (.done)))])])))) (.q (.q .o6 (.q .o2 .aJ)) (.q (.q .o6 (.q .o2 .aJ)) (.q .o4 .l))))
theorem XN.o {a b:Int}{c:Addr}{d:Hp}{e:aN}(f:dW d λf=>gT f .p c λ(g:R2)=>gT f .p c λ(h:R2)=>Xk.c g a d λi j=>And (f j) <| Xk.c h b j λk l=>And (f l) <| QG.c i l λm n=>QG.c k n λo p=>bL (m-o) λq=>If (q != 0) (e q p) (ZQ.c i 1 p λr s=>ZQ.c k 1 s λt u=>bL (r-t) λv=>If (v != 0) (e v u) (bL (b-a) λw=>e w u))):XN.c a b c d e:=Wa Tryz.func233 (x:=XN.h) (R0 f)
def QG.h:Hn:=.q .o1 (.q (.k (.q .o4 (.c .aM (.q .o4 .aK)))) .aM)
theorem QG.o {a:Sl}{b:Hp}{c:aN}(d:ZQ.c a 1 b λd e=>If (d==0) (c 0 e) (ZQ.c a 3 e λf g=>If (f>0) (c 1 g) (c 2 g))):QG.c a b c:=Wa Tryz.func234 (x:=QG.h) (R0 d)
def Xt.h:Hn:=.q .o2 (.q (.k (.q .o4 (.c .aM (.q (.cV (.seq [.op,.op,.op,.dA false 2 [.op,.op],.op,.dA false 7 (RI.ops 7),.op,.dA false 9 (RI.ops 9),.op])) .aK)))) (.q .fW (.q (.q .o3 .aK) (.q .o3 .aM))))
theorem Xt.o {a:R2}{b c d:Int}{e:Sl}{f:Hp}{g:aN}(h:aV #[.slice e.a e.len e.cap] 69 f λh i=>WY.c a i λj k=>If (!j) (g 5 k) (bY (λl m=>bY (λn o=>bY (λp q=>If p (g 1 q) (bE a 0 q λs=>bL (b+c) λt=>eX s 1 b t (s.cap:Nat) λu=>Wx.c u ⟨269,#[],#[.pointer (some h)]⟩ q λv w=>If v (g 5 w) (Qu.c u d w λx=>g 0 x))) λy=>If n (y true o) (bE a 0 o λaa=>bL (((aa.len:Nat):Int)-b) λab=>y (decide (c>ab)) o)) λac=>If l (ac true m) (bE a 0 m λae=>ac (decide (b>((ae.len:Nat):Int))) m)) λaf=>If (b<0) (af true k) (af (decide (c<1)) k))):Xt.c a b c d e f g:=Wa Tryz.func235 (x:=Xt.h) (R0 h)
def X6.h:Hn:=.q .o1 (.q (.q .o3 .aK) (.q .o1 (.q (.q .o3 (.k (.loop [(5,.one .s),(13,.I)] (.q .o1 (.q (.c .l .l) (.q (.k (.q .o2 (.q .o4 (.q (.cV (.seq [.op,.op,.op,.op,.op,.dA true 4 (RI.ops 4)])) (.c .o5 .l))))) .o2)))))) .aL)))
theorem X6.o {a:R2}{b:Int}{c:Hp}{d:Sl->Hp->Prop}(e:WY.c a c λe f=>If (!e) (d ⟨none,0,0⟩ f) (XR.c a f λg h=>WR [.s,bN] (λi=>i ⟨none,0,0⟩ 0 h) λj (k:Sl) (l:Int) m=>If (l<g) (Xk.c a l m λn o=>Ix n.a n.len 0 1 λp=>bM p o λq=>bY (λr s=>If r (aV #[.I l] 3 s λt u=>App k 1 8 3 [.I 0] ⟨some t,1,1⟩ u λv w=>bL (l+1) λx=>j v x w) (bL (l+1) λy=>j k y s)) λz=>If (q != 0) (QG.c n o λaa ab=>z (aa==b) ab) (z false o)) (d k m))):X6.c a b c d:=Wa Tryz.func237 (x:=X6.h) (R0 e)
def X3.h:Hn:=.q .o2 (.q (.k (.q .o4 (.c .aL (.q (.cV (.seq [.op,.op,.op,.dA false 4 (RI.ops 4),.op])) .aJ)))) (.q .o5 .l))
theorem X3.o {a:R2}{b:Int}{c:Hp}{d:Sl->Int->Hp->Prop}(e:WY.c a c λe f=>If (!e) (d ⟨none,0,0⟩ 5 f) (bY (λg h=>If g (d ⟨none,0,0⟩ 1 h) (Xk.c a b h λi j=>d i 0 j)) λk=>If (b<0) (k true f) (XR.c a f λl m=>k (decide (b≥l)) m))):X3.c a b c d:=Wa Tryz.func238 (x:=X3.h) (R0 e)
def Q9.h:Hn:=.q .o1 (.q (.cV (.seq [.op,.op,.op,.op,.op,.dA true 3 (RI.ops 3),.op])) .l)
theorem Q9.o {a:Sl}{b:Hp}{c:aO}(d:Ix a.a a.len 0 1 λd=>bM d b λe=>bY (λf g=>c f g) λh=>If (e != 0) (ZQ.c a 1 b λi j=>h (i==0) j) (h false b)):Q9.c a b c:=Wa Tryz.func239 (x:=Q9.h) (R0 d)
def Qu.h:Hn:=.q .o3 (.k (.loop [(7,.I)] (.q .o1 (.q (.c .l .l) (.q (.k (.q .o2 .o5)) .o2)))))
theorem Qu.o {a:Sl}{b:Int}{c:Hp}{d:aP}(e:WR [bN] (λe=>e 0 c) λf (g:Int) h=>If (g<((a.len:Nat):Int)) (Ix a.a a.len g 1 λi=>dG i (.I b) h λj=>bL (g+1) λk=>f k j) (d h)):Qu.c a b c d:=Wa Tryz.func240 (x:=Qu.h) (R0 e)
def XP.h:Hn:=.q .o1 (.q .o6 .l)
theorem XP.o {a:R2}{b c:Int}{d:Hp}{e:aN}(f:aV #[.I 2,.I 3] 3 d λf g=>Xt.c a b c 1 ⟨some f,2,2⟩ g λh i=>e h i):XP.c a b c d e:=Wa Tryz.func254 (x:=XP.h) (R0 f)
def YM.h:Hn:=.q .o1 (.q .o5 .l)
theorem YM.o {a:Int}{b:Addr}{c:Hp}{d:aO}(e:jB b c λe=>Wo.c e a c λf g=>d (!f) g):YM.c a b c d:=Wa Tryz.func269 (x:=YM.h) (R0 e)
def Yv.h:Hn:=.q .o1 (.q .o8 (.q (.k (.q .o3 (.c .aL (.q .o5 .aK)))) (.q .o2 .aM)))
theorem Yv.o {a:R2}{b:Int}{c:Hp}{d:aN}(e:X3.c a b c λe f g=>If (f != 0) (d f g) (Ix e.a e.len 0 1 λh=>bM h g λi=>If (i != 0) (d 5 g) (Qu.c e 3 g λj=>d 0 j))):Yv.c a b c d:=Wa Tryz.func281 (x:=Yv.h) (R0 e)
end Go.Proofs