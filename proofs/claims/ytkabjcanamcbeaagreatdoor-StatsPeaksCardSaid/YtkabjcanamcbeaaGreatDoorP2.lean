/- Texts joined. -/
import Derived.Deep.Slices
import Derived.Deep.Fields
import Derived.ChangeSame
import Derived.Lib.SmallJoins
import Derived.Below
import Derived.Test.YtkabjcanamcbeaaGreatDoorProg
import Derived.KernelRfl
import Derived.Shelf.SlIterI.Nil
import Derived.Shelf.SortM.Plain
import Derived.Shelf.SortM.SortNone
import Derived.Ground.GgzProg
import Derived.Ground.SlgmProg
import Derived.Shelf.SlMaps.Clone
import Derived.Ground.SlmcProg
import Derived.Test.YtkabjcanamcbeaaGreatDoorP1
set_option linter.unusedVariables false
set_option linter.unusedSimpArgs false
namespace Go.Vc
open Go
abbrev Rg:=Nat->Prop
def Lcl (P:Hp->Rg->Prop):Prop:=∀σ σ' (F G:Rg),P σ F->σ.size<=σ'.size->(∀b,b<σ.size->F b->G b/\σ'[b]?=σ[b]?)->P σ' G
def Grow (F:Rg)(σ:Hp):Rg:=λb=>F b\/σ.size<=b
theorem Lcl.mono {P:Hp->Rg->Prop}(hl:Lcl P){σ:Hp}{F G:Rg}(h:P σ F)(hs:∀b,b<σ.size->F b->G b):P σ G:=hl σ σ F G h (zD _) λb d a=>⟨hs b d a,rfl⟩
theorem Lcl.keep {P:Hp->Rg->Prop}(hl:Lcl P){σ σ':Hp}{F T:Rg}(h:P σ F)(e:Ext T σ σ')(hn:∀b,b<σ.size->F b->¬T b):P σ' F:=
 hl σ σ' F F h e.1 λb d a=>⟨a,e.2 b d (hn b d a)⟩
theorem Lcl.keep0 {P:Hp->Rg->Prop}(hl:Lcl P){σ σ':Hp}{F:Rg}(h:P σ F)(e:Ext0 σ σ'):P σ' F:=hl.keep h e λ_ _ _=>id
def Sep {L:Type}(C:L->Hp->Rg->Prop)(σ:Hp)(F:Rg):Prop:=∃ρ:Nat->L,∀i,C i σ λb=>F b/\ρ b=i
variable {L:Type}{C:L->Hp->Rg->Prop}{σ σ':Hp}{F:Rg}
theorem Sep.loc (hC:∀i,Lcl (C i)):Lcl (Sep C):=by
 rintro σ j F G ⟨ρ,h⟩ g d;exact⟨ρ,λi=>hC i _ _ _ _ (h i) g λb e a=>⟨⟨(d b e a.1).1,a.2⟩,(d b e a.1).2⟩⟩
theorem Sep.get (h:Sep C σ F)(i:L):∃G:Rg,(∀b,G b->F b)/\C i σ G:=by
 obtain⟨ρ,h⟩:=h;exact⟨_,λb a=>a.1,h i⟩
open Classical in
theorem Sep.step2 (hC:∀i,Lcl (C i))(h:Sep C σ F)(i j:L)(hij:i≠j):∃G H:Rg,(∀b,G b->F b)/\(∀b,H b->F b)/\(∀b,G b->¬H b)/\C i σ G/\C j σ H/\∀(σ':Hp) (C':L->Hp->Rg->Prop) (G' H':Rg),
 (∀k,k≠i->k≠j->C' k=C k)->Ext (λb=>G b\/H b) σ σ'->(∀b,G' b->(G b\/H b)\/σ.size<=b)->(∀b,H' b->(G b\/H b)\/σ.size<=b)->(∀b,G' b->¬H' b)->C' i σ' G'->C' j σ' H'->(∀k,Lcl (C' k)) →
 Sep C' σ' λb=>F b/\b<σ.size/\¬(G b\/H b)\/G' b\/H' b:=by
 obtain⟨ρ,h⟩:=h;refine⟨_,_,λb a=>a.1,λb a=>a.1,λb g w=>hij (g.2.symm.trans w.2),h i,h j,λσ' C' G' H' y e x z hd A B u=>⟨λb=>if G' b then i else if H' b then j else ρ b,λk=>?_⟩⟩
 by_cases hki:k=i
 ·subst hki;exact(u _).mono A λb _ a=>⟨.inr (.inl a),zB a⟩
 by_cases hkj:k=j
 ·subst hkj;exact(u _).mono B λb _ a=>⟨.inr (.inr a),by show(if G' b then i else if H' b then k else ρ b)=k;rw[zA λd=>hd b d a,zB a]⟩
 ·rw[y k hki hkj];refine hC k _ _ _ _ (h k) e.1 λb a r=>?_;have s:¬((F b/\ρ b=i)\/F b/\ρ b=j):=by
   rintro(d|d)
   ·exact hki (r.2.symm.trans d.2)
   ·exact hkj (r.2.symm.trans d.2)
  have m:¬G' b:=λd=>by
   rcases x b d with g|g
   ·exact s g
   ·omega
  have p:¬H' b:=λd=>by
   rcases z b d with g|g
   ·exact s g
   ·omega
  exact⟨⟨.inl ⟨r.1,a,s⟩,by show(if G' b then i else if H' b then j else ρ b)=k;rw[zA m,zA p];exact r.2⟩,e.2 b a s⟩
def BlkR (p:Nat)(cs:List Value):Hp->Rg->Prop:=λσ F=>F p/\Blk σ p cs
theorem BlkR.loc (p:Nat)(cs:List Value):Lcl (BlkR p cs):=λσ d F G h g b=>by
 obtain⟨e,a⟩:=h.2;have:=b p h.2.lt h.1;exact⟨this.1,e,this.2.trans a⟩
def MapR (r:Nat)(k:IntKind)(c:CK)(l:List (Int×c.T)):Hp->Rg->Prop:=λσ F=>F r/\MapL σ r k c l
theorem MapR.loc (r:Nat)(k:IntKind)(c:CK)(l:List (Int×c.T)):Lcl (MapR r k c l):=λσ g F G h i e=>by
 have:=e r h.2.lt h.1;obtain⟨b,a,d,rest⟩:=h.2;exact⟨this.1,b,a,this.2.trans d,rest⟩
def WkS:Hp->Rg->Prop:=λ_ _=>True
theorem WkS.loc:Lcl WkS:=λ_ _ _ _ _ _ _=>trivial
def OwnR (s:Sl)(sz:Nat)(xs:List Value):Hp->Rg->Prop:=λσ F=>Own F σ s sz xs
theorem OwnR.loc (s:Sl)(sz:Nat)(xs:List Value):Lcl (OwnR s sz xs):=λσ d F G h g a=>by
 refine⟨h.1,h.2.imp id ?_⟩;rintro⟨b,cs,hq,ha,⟨e,he⟩,r⟩;have:=a b (Blk.lt ⟨e,he⟩) hq;exact⟨b,cs,this.1,ha,⟨e,this.2.trans he⟩,r⟩
def RowR (s:Sl)(sz:Nat)(xs:List Value):Hp->Rg->Prop:=λh F=>xs.length=s.len*sz/\(s.len=0/\s.cap=0\/∃b cs,F b/\s.a=some ⟨b,0,none⟩/\Blk h b cs/\s.len<=s.cap/\cs.length=s.cap*sz/\cs.take xs.length=xs)
theorem RowR.loc (s:Sl)(sz:Nat)(xs:List Value):Lcl (RowR s sz xs):=λσ d F G h g a=>by
 refine⟨h.1,h.2.imp id ?_⟩;rintro⟨b,cs,hq,ha,⟨e,he⟩,r⟩;have:=a b (Blk.lt ⟨e,he⟩) hq;exact⟨b,cs,this.1,ha,⟨e,this.2.trans he⟩,r⟩
theorem _root_.aI{s n xs}:Lcl (RowR s n xs):=RowR.loc _ _ _
theorem RowR.nil (h:Hp)(F:Rg)(sz:Nat)(a:Option Addr):RowR ⟨a,0,0⟩ sz [] h F:=⟨by simp,.inl ⟨rfl,rfl⟩⟩
theorem RowR.rd {h:Hp}{F:Rg}{s:Sl}{sz:Nat}{xs:List Value}(ho:RowR s sz xs h F):Rd h s.a xs:=by
 rcases ho.2 with⟨hl,_⟩|⟨b,cs,_,ha,hb,_,_,ht⟩
 ·have:=ho.1;rw[hl]at this;simp at this;subst this;cases s.a<;>simp[Rd]
 ·rw[ha];intro j v hv;rw[add_lit,hb.cell,zG];rw[←ht,zX]at hv;split at hv
  ·exact hv
  ·cases hv
theorem RowR.app {F:Rg}{h:Hp}{s x:Sl}{sz bytes e:Nat}{zs xs ys:List Value}{K:Sl->Hp->Prop}(ho:RowR s sz xs h F)(hz:zs.length=sz)
 (hy:ys.length=x.len*sz) (hr:Rd h x.a ys) (h1:∀v∈ys,one1 v=true) (hb:(s.len+x.len)*bytes<=2^46) (hc:s.len+x.len<=2^62)
 (hx:0<x.len) (hK:∀s' h',s'.len=s.len+x.len->Ext F h h'->RowR s' sz (xs++ys) h' (Grow F h)->K s' h'):App s sz bytes e zs x h K:=by
 refine⟨xs,ys,ho.1,hy,ho.rd,hr,h1,hb,hc,λg=>?_,λp c j=>?_⟩
 ·rcases ho.2 with⟨hl,hcap⟩|⟨b,cs,hQ,ha,hk,hle,hcl,ht⟩
  ·omega
  ·rw[ha];simp only;rw[add_lit];have r:(s.len+x.len)*sz<=s.cap*sz:=zAJ _ g;rw[zj]at r;have d:=ho.1;refine VY hk O λh' m i=>hK _ h' rfl (Ext.of_only m hQ) ⟨?_,.inr ⟨b,_,.inl hQ,rfl,i,g,?_,?_⟩⟩
   ·simp[d,hy,zj]
   ·simp;omega
   ·rw[zK,d];rw[zG,zp,←d];rw[ht,zBX aA,zAZ aA]
 ·refine hK _ _ rfl (Ext.push _ _ _) ⟨by simp[ho.1,hy,zj],.inr ⟨h.size,xs++ys++(List.replicate (c-(s.len+x.len)) zs).flatten,.inr (zD _),rfl,⟨e,by simp⟩,j,?_,?_⟩⟩
  ·simp only[zK,zEB,zDH,zEC,ho.1,hy,hz,←zj]
   congr 1;omega
  ·rw[zBX aA,zAZ aA]
theorem RowR.st {F:Rg}{h:Hp}{s:Sl}{sz:Nat}{xs:List Value}(ho:RowR s sz xs h F){j:Nat}(hj:j<xs.length){v:Value}{K:aP}{a:Addr}(ha:∀b,s.a=some ⟨b,0,none⟩->a=⟨b,j,none⟩)
 (hK:∀h',Ext F h h'->RowR s sz (xs.set j v) h' F->K h'):St1 a v h K:=by
 rcases ho.2 with⟨hl,_⟩|⟨b,cs,hq,hsa,hb,hle,hcl,ht⟩
 ·have:=ho.1;rw[hl]at this;simp at this;subst this;simp at hj
 ·rw[ha b hsa];have d:j<cs.length:=by
   have:(cs.take xs.length).length=xs.length:=by rw[ht]
   rw[zO]at this;omega
  refine⟨by rw[hb.cell,gGe d];rfl,hb.frz,hK _ (Ext.setc (F:=F) hq) ⟨by simp[ho.1],.inr ⟨b,_,hq,hsa,hb.set v,hle,by simp[hcl],?_⟩⟩⟩;rw[zBR,List.take_set,ht]
def SlR (s:Sl)(sz:Nat)(xs:List Value):Hp->Rg->Prop:=λσ F=>xs.length=s.len*sz/\(xs=[]\/∃b o cs,F b/\s.a=some ⟨b,o,none⟩/\BlkQ σ b cs/\∀j,j<xs.length->cs[o+j]?=xs[j]?)
theorem SlR.loc (s:Sl)(sz:Nat)(xs:List Value):Lcl (SlR s sz xs):=λσ d F G h g a=>by
 refine⟨h.1,h.2.imp id ?_⟩;rintro⟨b,o,cs,hq,ha,⟨e,z,he⟩,r⟩;have:=a b (BlkQ.lt ⟨e,z,he⟩) hq;exact⟨b,o,cs,this.1,ha,⟨e,z,this.2.trans he⟩,r⟩
theorem _root_.aH{s n xs}:Lcl (SlR s n xs):=SlR.loc _ _ _
theorem RowR.slR {Q:Rg}{h:Hp}{s:Sl}{sz:Nat}{xs:List Value}(ho:RowR s sz xs h Q):SlR s sz xs h Q:=by
 refine⟨ho.1,?_⟩;rcases ho.2 with⟨hl,_⟩|⟨b,cs,hq,ha,hb,_,_,ht⟩
 ·left;have:=ho.1;rw[hl]at this;simpa using this
 ·refine .inr ⟨b,0,cs,hq,ha,hb.q,λj a=>?_⟩;rw[←ht,zX,zG,zB a]
theorem SlR.cell {s:Sl}{sz:Nat}{xs:List Value}(h:SlR s sz xs σ F){j:Nat}{v:Value}(hv:xs[j]?=some v):∃b o,s.a=some ⟨b,o,none⟩/\Vc.cell σ ⟨b,o+j,none⟩=some v:=by
 have d:=(gSi.1 hv).1;rcases h.2 with h0|⟨b,o,cs,_,ha,hb,hc⟩
 ·subst h0;simp at d
 ·exact⟨b,o,ha,by rw[hb.cell,hc j d];exact hv⟩
theorem SlR.ixI {s:Sl}{k:IntKind}{xs:List Int}(h:SlR s 1 (xs.map (Value.int k)) σ F){i:Nat}{x:Int}(hx:xs[i]?=some x){K:Int->Prop}(hK:K x):Ix s.a s.len (i:Int) 1 λa=>LdI k a σ K:=by
 have m:=(gSi.1 hx).1;obtain⟨b,o,g,e⟩:=h.cell (j:=i) (v:=.int k x) (by simp[hx]);have d:=h.1;simp at d;rw[g];refine ix O O ?_;rw[add_lit];exact ldI (by simpa using e) hK
theorem SlR.rd {s:Sl}{sz:Nat}{xs:List Value}(h:SlR s sz xs σ F):Rd σ s.a xs:=by
 cases ha:s.a with
 | none=>
  rcases h.2 with h0|⟨b,o,cs,_,d,_⟩
  ·exact h0
  ·rw[ha]at d;cases d
 | some a=>
  intro j v hv;obtain⟨b,o,d,e⟩:=h.cell hv;rw[ha]at d;cases d;rw[add_lit];exact e
end Go.Vc
namespace Go.Vc
open Go Go.ChangeShapes Go.WideShapes Go.Deep Go.RowKit
def Yes (σ:Hp):Bool->Hp->Prop:=λb σ'=>b=true/\Ext0 σ σ'
theorem Wlf {P:Program}{f:Nat}{args:Array Value}{w:World}(h:We P f args [.one .b] w.heap (Yes w.heap)):Calls P f args w λe w'=>e=.returned (.bool true)/\Below w.heap.size w w':=by
 refine(h w rfl).mono ?_;rintro e w' ⟨a,vs,rfl,g⟩
 match vs,g with
 | [v],g=>
  obtain⟨x,rfl,m,j⟩:=g;have d:x=true:=m;subst d;exact⟨rfl,⟨a.1,a.2.1,a.2.2.1,a.2.2.2,λk i=>j.2 k i id⟩⟩
def Acts (h:Hp)(l:Sl)(xs:List (Int×Int×Int)):Prop:=l.len=xs.length/\∀i x y z,xs[i]?=some (x,y,z)->∃b o,l.a=some ⟨b,o,none⟩/\b<h.size ∧
 cell h ⟨b,o+i*3,none⟩=some (.int .i64 x)/\cell h ⟨b,o+i*3+1,none⟩=some (.int .i64 y)/\cell h ⟨b,o+i*3+2,none⟩=some (.int .i64 z)
theorem WhH {h:Hp}{a:Addr}{v:Value}(hc:cell h a=some v):a.block<h.size/\a.spot=none:=by
 unfold cell at hc;split at hc
 ·rename_i heq;refine⟨(zAQ.1 heq).1,?_⟩;cases hs:a.spot with
  | none=>rfl
  | some s=>rw[hs]at hc;simp at hc
 ·cases hc
end Go.Vc
namespace Go.Vc
open Go
theorem ldI0 {k:IntKind}{b o i:Nat}{h:Hp}{x:Int}{K:Int->Prop}(hc:cell h ⟨b,o+i,none⟩=some (.int k x))(hK:K x):LdI k (Addr.add ⟨b,o,none⟩ i) h K:=by
 rw[add_lit];exact ldI hc hK
theorem arN {e:Int}{m:Nat}{K:Int->Prop}(he:e=(m:Int))(hm:m<=4611686018427387904)(hK:K (m:Int)):Ar .i64 e K:=by
 rw[he];exact ar O O hK
theorem WcB {k:Nat}(h:k<=62):min ((k:Int).toNat) IntKind.i64.bits=k:=by
 have:IntKind.i64.bits=64:=rfl;rw[this];omega
theorem arW {k:IntKind}{e:Int}{K:Int->Prop}(hK:K (k.wrap e)):Ar k e K:=hK
variable {σ:Hp}{b o i j:Nat}{cs:List Value}
theorem Blk.rI (hb:Blk σ b cs){k:IntKind}{x:Int}{K:Int->Prop}(hc:cs[o+i]?=some (.int k x))(hK:K x):LdI k (Addr.add ⟨b,o,none⟩ i) σ K:=by
 rw[add_lit];exact ldI (hb.cell.trans hc) hK
theorem Blk.rB (hb:Blk σ b cs){x:Bool}{K:Bool->Prop}(hc:cs[o+i]?=some (.bool x))(hK:K x):LdB (Addr.add ⟨b,o,none⟩ i) σ K:=by
 rw[add_lit];exact ldB (hb.cell.trans hc) hK
theorem Blk.rP (hb:Blk σ b cs){x:Option Addr}{K:Option Addr->Prop}(hc:cs[o+i]?=some (.pointer x))(hK:K x):LdP (Addr.add ⟨b,o,none⟩ i) σ K:=by
 rw[add_lit];exact ldP (hb.cell.trans hc) hK
theorem Blk.rM (hb:Blk σ b cs){x:Option Nat}{K:Option Nat->Prop}(hc:cs[o+i]?=some (.map x))(hK:K x):LdM (Addr.add ⟨b,o,none⟩ i) σ K:=by
 rw[add_lit];exact ldM (hb.cell.trans hc) hK
theorem Blk.rS (hb:Blk σ b cs){a:Option Addr}{n c:Nat}{K:Sl->Prop}(hc:cs[o+i]?=some (.slice a n c))(hK:K ⟨a,n,c⟩):LdS (Addr.add ⟨b,o,none⟩ i) σ K:=by
 rw[add_lit];exact ldS (hb.cell.trans hc) hK
theorem Blk.rI2 (hb:Blk σ b cs){k:IntKind}{x:Int}{K:Int->Prop}(hc:cs[o+i+j]?=some (.int k x))(hK:K x):LdI k (Addr.add (Addr.add ⟨b,o,none⟩ i) j) σ K:=by
 rw[add_lit,add_lit];exact ldI (hb.cell.trans hc) hK
theorem Blk.rI0 (hb:Blk σ b cs){k:IntKind}{x:Int}{K:Int->Prop}(hc:cs[o]?=some (.int k x))(hK:K x):LdI k ⟨b,o,none⟩ σ K:=ldI (hb.cell.trans hc) hK
theorem Blk.rP0 (hb:Blk σ b cs){x:Option Addr}{K:Option Addr->Prop}(hc:cs[o]?=some (.pointer x))(hK:K x):LdP ⟨b,o,none⟩ σ K:=ldP (hb.cell.trans hc) hK
theorem Blk.rS0 (hb:Blk σ b cs){a:Option Addr}{n c:Nat}{K:Sl->Prop}(hc:cs[o]?=some (.slice a n c))(hK:K ⟨a,n,c⟩):LdS ⟨b,o,none⟩ σ K:=ldS (hb.cell.trans hc) hK
theorem Blk.s1 (hb:Blk σ b cs){v:Value}(ho:o+i<cs.length){K:aP}(hK:∀h',QD σ h' b->Blk h' b (cs.set (o+i) v)->K h'):St1 (Addr.add ⟨b,o,none⟩ i) v σ K:=by
 rw[add_lit];refine⟨?_,hb.frz,hK _ ⟨Vg _ _ _,λc a=>VN a⟩ (hb.set v)⟩;rw[hb.cell,gGe ho];rfl
theorem Blk.s0 (hb:Blk σ b cs){v:Value}(ho:o<cs.length){K:aP}(hK:∀h',QD σ h' b->Blk h' b (cs.set o v)->K h'):St1 ⟨b,o,none⟩ v σ K:=by
 refine⟨?_,hb.frz,hK _ ⟨Vg _ _ _,λc a=>VN a⟩ (hb.set v)⟩;rw[hb.cell,gGe ho];rfl
theorem nw {e:Nat}{K:Addr->Hp->Prop}(hK:∀h',h'.size=σ.size+1->Ext0 σ h'->Blk h' σ.size cs->K ⟨σ.size,0,none⟩ h'):Nw (.cells cs.toArray e (0,0)) σ K:=
 hK _ aA (Ext.push _ _ _) (Blk.push _ _ _)
theorem WeU {K:Addr->Hp->Prop}(hK:∀h',h'.size=σ.size+1->Ext0 σ h'->(∀(k:IntKind) (c:CK),MapL h' σ.size k c [])->K ⟨σ.size,0,none⟩ h'):Nw (.map #[] 0) σ K:=
 hK _ aA (Ext.push _ _ _) λk c=>MapL.push _ _ _
theorem mk {n bytes e:Nat}{zs:List Value}{K:Sl->Hp->Prop}(h1:bytes*n<=1073741824)(h2:n<=1073741824)
 (hK:∀h',h'.size=σ.size+1->Ext0 σ h'->Blk h' σ.size (List.replicate n zs).flatten->K ⟨some ⟨σ.size,0,none⟩,n,n⟩ h'):Mk (n:Int) (n:Int) bytes e zs σ K:=by
 refine⟨O,zCH _,?_,O,?_⟩
 ·have:((bytes:Int)*(n:Int))=((bytes*n:Nat):Int):=by simp
  rw[this];omega
 ·simp only[iTn];exact nw hK
theorem slc {s:Sl}{sz lo hi mx:Nat}{K:Sl->Prop}(h1:lo<=hi)(h2:hi<=mx)(h3:mx<=s.cap)(hK:K ⟨if mx=lo then s.a else s.a.map (·.add (lo*sz)),hi-lo,mx-lo⟩):SlcL s sz (lo:Int) (hi:Int) (mx:Int) K:=
 ⟨O,O,O,O,by simpa using hK⟩
theorem beqN (a b:Nat):(((a:Nat):Int)==((b:Nat):Int))=(a==b):=by rw[zBD];simp;omega
theorem bneN (a b:Nat):(((a:Nat):Int) != ((b:Nat):Int))=(a != b):=by rw[bne,bne,beqN]
theorem Wg3 (a:Nat):(((a:Nat):Int)==0)=(a==0):=beqN a 0
theorem WnP (a:Nat):(((a:Nat):Int) != 0)=(a != 0):=bneN a 0
def ints (l:List Nat):List Value:=l.map λ(x:Nat)=>Value.int .i64 (x:Int)
theorem QE (l:List Nat):(ints l).length=l.length:=by simp[ints]
theorem WfB {l:List Nat}{i x:Nat}(h:l[i]?=some x):(ints l)[i]?=some (.int .i64 (x:Int)):=by simp[ints,h]
theorem Vd (l m:List Nat):ints (l++m)=ints l++ints m:=by simp[ints]
theorem SlR.ixN {s:Sl}{F:Rg}{xs:List Nat}(h:SlR s 1 (ints xs) σ F){i x:Nat}(hx:xs[i]?=some x){K:Int->Prop}(hK:K (x:Int)):Ix s.a s.len (i:Int) 1 λa=>LdI .i64 a σ K:=by
 have j:=(gSi.1 hx).1;obtain⟨b,o,g,e⟩:=h.cell (WfB hx);have d:=h.1;rw[QE]at d;rw[g];refine ix O O ?_;rw[add_lit];exact ldI (by simpa using e) hK
theorem SlR.lenN {s:Sl}{F:Rg}{xs:List Nat}(h:SlR s 1 (ints xs) σ F):s.len=xs.length:=by
 have:=h.1;rw[QE]at this;omega
theorem SlR.nil (F:Rg)(a:Option Addr)(c sz:Nat):SlR ⟨a,0,c⟩ sz [] σ F:=⟨by simp,.inl rfl⟩
theorem Blk.slR {s:Sl}{sz:Nat}{xs:List Value}(hb:Blk σ b cs)(ha:s.a=some ⟨b,o,none⟩)(hl:xs.length=s.len*sz)(hc:∀j,j<xs.length->cs[o+j]?=xs[j]?):SlR s sz xs σ (· = b):=
 ⟨hl,.inr ⟨b,o,cs,rfl,ha,hb.q,hc⟩⟩
theorem Wne {a xa:Option Addr}{xc sz bytes e:Nat}{zs:List Value}{K:Sl->Hp->Prop}(hK:K ⟨a,0,0⟩ σ):App ⟨a,0,0⟩ sz bytes e zs ⟨xa,0,xc⟩ σ K:=by
 refine⟨[],[],by simp,by simp,by cases a<;>simp[Rd],by cases xa<;>simp[Rd],by simp,by simp,by simp,λ_=>?_,λh=>absurd (zD 0) h⟩
 cases a
 ·exact hK
 ·exact hK
theorem RowR.push {F:Rg}{s:Sl}{sz bytes e t:Nat}{zs xs vs:List Value}{K:Sl->Hp->Prop}(ho:RowR s sz xs σ F)(hF:∀b,σ.size<=b->F b)(hz:zs.length=sz)(hv:vs.length=sz)(h1:∀v∈vs,one1 v=true)
 (hb:bytes<=1000) (hl:s.len<=1000000) (hK:∀s' h',s'.len=s.len+1->Ext F σ h'->RowR s' sz (xs++vs) h' F->K s' h') :
 Nw (.cells vs.toArray t (0,0)) σ λn v=>App s sz bytes e zs ⟨some n,1,1⟩ v K:=by
 refine nw λv p m i=>?_;have d:=(RowR.loc s sz xs).keep0 ho m;refine d.app (ys:=vs) hz (by simp[hv]) ?_ h1 ?_ ?_ zBG λs' h' a w g=>hK s' h' a (m.to.trans w) ?_
 ·intro j u hu;rw[add_lit,zG,i.cell];exact hu
 ·simp only;have:(s.len+1)*bytes<=1000001*1000:=zAF O hb;omega
 ·simp only;omega
 ·exact aI.mono g λb _ r=>by
   rcases r with h|h
   ·exact h
   ·exact hF b O
theorem RowR.lenN {F:Rg}{s:Sl}{xs:List Nat}(h:RowR s 1 (ints xs) σ F):s.len=xs.length:=by
 have:=h.1;rw[QE]at this;omega
theorem Wai {F:Rg}{s:Sl}{sz bytes e:Nat}{zs vs:List Value}{R:Sl->Hp->Prop}(h:SlR s sz vs σ F)(hpos:0<sz)(hz:zs.length=sz)(h1:∀v∈vs,one1 v=true)(hb:bytes<=1000)(hl:s.len<=1000000)
 (hR:∀s' σ',s'.len=s.len->Ext0 σ σ'->RowR s' sz vs σ' (λb=>σ.size<=b)->R s' σ') :
 If s.a.isNone (R ⟨none,0,0⟩ σ) (Nw (.cells #[] e (0,0)) σ λn v=>App ⟨some n,0,0⟩ sz bytes e zs s v λt v1=>R t v1):=by
 have d:=h.1;refine iff_ (λp=>?_) λp=>?_
 ·have D:vs=[]:=by
   rcases h.2 with g|⟨b,o,cs,_,ha,_⟩
   ·exact g
   ·rw[ha]at p;cases p
  subst D;have g:s.len=0:=by
   have u:s.len*sz=0:=by simpa using d.symm
   rcases zDW.1 u with h|h
   ·exact h
   ·omega
  exact hR _ _ (by simp[g]) (Ext.refl _ _) (RowR.nil _ _ _ _)
 ·refine nw (cs:=[]) λv w m z=>?_;have y:=(SlR.loc s sz vs).keep0 h m;rcases zET s.len with g|g
  ·obtain⟨a,n,c⟩:=s;simp only at g;subst g;have:vs=[]:=by simpa using d
   subst this;exact Wne (hR _ _ rfl m (RowR.nil _ _ _ _))
  ·refine(RowR.nil v (λb=>σ.size<=b) sz (some ⟨σ.size,0,none⟩)).app (ys:=vs) hz d y.rd h1 ?_ ?_ g λs' C r B j=>hR s' C (by simpa using r) ?_ ?_
   ·simp only[zG];have:s.len*bytes<=1000000*1000:=zAF hl hb;omega
   ·simp only;omega
   ·exact Ext.fresh m B λi A=>A
   ·rw[zBW]at j;exact aI.mono j λb _ x=>by
     rcases x with h|h
     ·exact h
     ·omega
def Cut (F:Rg)(σ:Hp):Rg:=λb=>F b/\b<σ.size
theorem Lcl.cut {P:Hp->Rg->Prop}(hl:Lcl P){F:Rg}(h:P σ F):P σ (Cut F σ):=hl.mono h λb d a=>⟨a,d⟩
theorem Ext.cut {F:Rg}{σ':Hp}(e:Ext (Cut F σ) σ σ'):Ext F σ σ':=⟨e.1,λb g a=>e.2 b g λd=>a d.1⟩
theorem Ext.sub {F G:Rg}{a b:Hp}(e:Ext F a b)(h:∀i,F i->G i):Ext G a b:=e.mono λi _ d=>h i d
theorem QD.ext {h h':Hp}{r:Nat}(ho:QD h h' r):Ext (· = r) h h':=Ext.of_only ho rfl
theorem Ext.growT {F:Rg}{a b c:Hp}(e:Ext F a b)(k:Ext (Grow F a) b c):Ext F a c:=
 ⟨zI e.1 k.1,λi g d=>(k.2 i (zEA g e.1) λj=>by rcases j with h|h;exact d h;omega).trans (e.2 i g d)⟩
theorem Ext.newT {F G:Rg}{a b c:Hp}(e:Ext F a b)(k:Ext G b c)(h:∀i,G i->F i\/a.size<=i):Ext F a c:=e.growT (k.sub h)
theorem Gr {P:Program}{f:Nat}{first caps:Array Value}{args:List Value}{all:Array Value}{rs:List SK}{R:Fam (ksOf rs)}(hok:Ho P f=true)(he:first++args.toArray++caps=all)
 (hc:We P f all rs σ R):VK P ⟨f,first,caps⟩ args rs σ R:=⟨hok,by unfold WoT;simp only;rw[he];exact hc⟩
theorem QR {h h':Hp}{F:Nat->Prop}(e:Ext F h h'){b o:Nat}(hb:b<h.size)(hF:¬F b):cell h' ⟨b,o,none⟩=cell h ⟨b,o,none⟩:=by
 unfold cell;rw[e.2 b hb hF]
theorem Wau {h h':Hp}{l:Sl}{xs:List (Int×Int×Int)}{F:Nat->Prop}(ha:Acts h l xs)(e:Ext F h h')(hF:∀b,F b->∀o,l.a≠some ⟨b,o,none⟩):Acts h' l xs:=by
 refine⟨ha.1,λi x y z u=>?_⟩;obtain⟨b,o,j,d,r,s,m⟩:=ha.2 i x y z u;have g:¬F b:=λp=>hF b p o j;exact⟨b,o,j,zEA d e.1,by rw[QR e d g];exact r,by rw[QR e d g];exact s,by rw[QR e d g];exact m⟩
theorem YO {h h':Hp}{l:Sl}{xs:List (Int×Int×Int)}(ha:Acts h l xs)(e:Ext0 h h'):Acts h' l xs:=Wau ha e λ_ h=>h.elim
theorem UV {h:Hp}{l:Sl}{xs:List (Int×Int×Int)}(ha:Acts h l xs){i:Nat}{x y z:Int}(hx:xs[i]?=some (x,y,z)){K:Int->Int->Int->Prop}(hK:K x y z) :
 Ix l.a l.len (i:Int) 3 λa=>LdI .i64 (a.add 0) h λu=>LdI .i64 (a.add 1) h λv=>LdI .i64 (a.add 2) h λw=>K u v w:=by
 obtain⟨b,o,e,p,d,j,g⟩:=ha.2 i x y z hx;have m:=(gSi.1 hx).1;rw[e];refine ix O (by rw[ha.1];omega) ?_;rw[add_lit];refine ldI0 (by simpa using d) (ldI0 (by simpa using j) (ldI0 (by simpa using g) hK))
end Go.Vc
namespace Go.Proofs
open Go.Vc
abbrev _root_.R1:=@We Tryz.prog
abbrev _root_.R2:=Option Addr
def WX.c (a b c d e f:Int)(g:Sl)(h:Hp)(i:aO):Prop:=R1 9 #[.agg #[.I a,.I b,.I c,.I d,.I e,.I f],.slice g.a g.len g.cap] [.one .b] h i
def W7.c (a:Hp)(b:aO):Prop:=R1 13 #[] [.one .b] a b
def Qe.c (a:Sl)(b c:Int)(d:Hp)(e:Int->Int->Hp->Prop):Prop:=R1 14 #[.slice a.a a.len a.cap,.I b,.I c] [.I,.I] d e
def WU.c (a:Int)(b:Hp)(c:Sl->Int->Hp->Prop):Prop:=R1 16 #[.I a] [.one .s,.I] b c
def WT.c (a b c:Int)(d:Hp)(e:aN):Prop:=R1 18 #[.agg #[.I a,.I b,.I c]] [.I] d e
def QJ.c (a:R2)(b:Hp)(c:Option Addr->Int->Hp->Prop):Prop:=R1 19 #[.pointer a] [.one .p,.I] b c
def Xx.c (a:R2)(b c d:Int)(e:Hp)(f:Int->Int->Hp->Prop):Prop:=R1 20 #[.pointer a,.I b,.I c,.I d] [.I,.I] e f
def Y6.c (a:R2)(b c:Int)(d:Hp)(e:aN):Prop:=R1 23 #[.pointer a,.I b,.I c] [.I] d e
def W6.c (a:R2)(b:Hp)(c:Int->Int->Int->Int->Int->Int->Int->Int->Int->Int->Hp->Prop):Prop:=R1 24 #[.pointer a] [.agg [bN,bN,bN,bN,bN,bN,bN,bN,bN,bN]] b c
def YE.c (a:R2)(b:Hp)(c:Sl->Hp->Prop):Prop:=R1 25 #[.pointer a] [.one .s] b c
def XJ.c (a:Hp)(b:Option Addr->Hp->Prop):Prop:=R1 29 #[] [.one .p] a b
def X7.c (a b c d e f:Int)(g:Sl)(h:Int)(i:Hp)(j:Option Addr->Hp->Prop):Prop:=R1 30 #[.agg #[.I a,.I b,.I c,.I d,.I e,.I f],.slice g.a g.len g.cap,.I h] [.one .p] i j
def Zp.c (a:R2)(b:Hp)(c:Sl->Hp->Prop):Prop:=R1 31 #[.pointer a] [.one .s] b c
def WN.c (a:R2)(b:Hp)(c:aN):Prop:=R1 32 #[.pointer a] [.I] b c
def YT.c (a:R2)(b:Hp)(c:Sl->Hp->Prop):Prop:=R1 33 #[.pointer a] [.one .s] b c
def Xz.c (a:Sl)(b:Int)(c:Hp)(d:aO):Prop:=R1 34 #[.slice a.a a.len a.cap,.I b] [.one .b] c d
def Xa.c (a:R2)(b c d e f g h:Int)(i:ByteArray)(j:Hp)(k:aN):Prop:=R1 35 #[.pointer a,.agg #[.I b,.I c,.I d,.I e,.I f,.I g,.I h,.string i]] [.I] j k
def XB.c (a:R2)(b:Hp)(c:Int->Int->Int->Int->Int->Int->Int->Int->Int->Int->Int->Hp->Prop):Prop:=R1 36 #[.pointer a] [.agg [bN,bN,bN,bN,bN,bN,bN,bN,bN,bN,bN]] b c
def X4.c (a b:Sl)(c:Hp)(d:aO):Prop:=R1 39 #[.slice a.a a.len a.cap,.slice b.a b.len b.cap] [.one .b] c d
def ZG.c (a:Sl)(b:Hp)(c:aO):Prop:=R1 40 #[.slice a.a a.len a.cap] [.one .b] b c
def Z1.c (a:Sl)(b c:Int)(d:Hp)(e:Int->Int->Hp->Prop):Prop:=R1 41 #[.slice a.a a.len a.cap,.I b,.I c] [.I,.I] d e
def Zd.c (a b c:Int)(d:Hp)(e:Int->Int->Hp->Prop):Prop:=R1 42 #[.agg #[.I a,.I b,.I c]] [.I,.I] d e
def Qo.c (a b c:Int)(d:Hp)(e:Int->Int->Hp->Prop):Prop:=R1 43 #[.agg #[.I a,.I b,.I c]] [.I,.I] d e
def Xl.c (a b:Int)(c:Hp)(d:Int->Int->Int->Hp->Prop):Prop:=R1 47 #[.I a,.I b] [.agg [bN,bN,bN]] c d
def X2.c (a b:Int)(c:Hp)(d:aN):Prop:=R1 48 #[.I a,.I b] [.I] c d
def QA.c (a:R2)(b:Hp)(c:aO):Prop:=R1 50 #[.pointer a] [.one .b] b c
def Xu.c (a:R2)(b:Hp)(c:aO):Prop:=R1 51 #[.pointer a] [.one .b] b c
def Yj.c (a:R2)(b c d:Int)(e:Hp)(f:Int->Int->Hp->Prop):Prop:=R1 52 #[.pointer a,.I b,.I c,.I d] [.I,.I] e f
def XD.c (a:R2)(b:Int)(c:Hp)(d:aP):Prop:=R1 53 #[.pointer a,.I b] [] c d
def XV.c (a:R2)(b:Int)(c:R2)(d:Hp)(e:aP):Prop:=R1 54 #[.pointer a,.I b,.pointer c] [] d e
def Y5.c (a:R2)(b:Hp)(c:Int->Int->Int->Int->Int->Hp->Prop):Prop:=R1 55 #[.pointer a] [.agg [bN,bN,bN,bN,bN]] b c
def Wbe.c (a:R2)(b:Int)(c:Hp)(d:Int->Int->Hp->Prop):Prop:=R1 56 #[.pointer a,.I b] [.I,.I] c d
def Zq.c (a:R2)(b c:Int)(d:Hp)(e:aN):Prop:=R1 58 #[.pointer a,.I b,.I c] [.I] d e
def Xd.c (a:Sl)(b:Fv)(c:Hp)(d:aN):Prop:=R1 59 #[.slice a.a a.len a.cap,.func (.func b.f) b.first b.captured] [.I] c d
def XK.c (a b c d:Int)(e:Hp)(f:aN):Prop:=R1 60 #[.agg #[.I a,.I b,.I c,.I d]] [.I] e f
def Wu.c (a b c d e f:Int)(g:Hp)(h:Option Addr->Hp->Prop):Prop:=R1 63 #[.agg #[.I a,.I b,.I c,.I d,.I e,.I f]] [.one .p] g h
def WQ.c (a b c d e f:Int)(g:Hp)(h:aO):Prop:=R1 64 #[.agg #[.I a,.I b,.I c,.I d,.I e,.I f]] [.one .b] g h
def WP.c (a:R2)(b:Hp)(c:aO):Prop:=R1 65 #[.pointer a] [.one .b] b c
def VJ.c (a:Fv)(b:Hp)(c:Sl->Hp->Prop):Prop:=R1 66 #[.func (.func a.f) a.first a.captured] [.one .s] b c
def ZO.c (a:Option Nat)(b:Hp)(c:Fv->Hp->Prop):Prop:=R1 67 #[.map a] [.one .fn] b c
def Wc.c (a:Sl)(b:Hp)(c:Sl->Hp->Prop):Prop:=R1 68 #[.slice a.a a.len a.cap] [.one .s] b c
def Yr.c (a:Sl)(b c d e f g h:Int)(i:ByteArray)(j:Hp)(k:aN):Prop:=R1 69 #[.slice a.a a.len a.cap,.agg #[.I b,.I c,.I d,.I e,.I f,.I g,.I h,.string i]] [.I] j k
def Y7.c (a:R2)(b:Sl)(c d e f g h i:Int)(j:ByteArray)(k:Hp)(l:Int->Int->Int->Hp->Prop):Prop:=R1 70 #[.pointer a,.slice b.a b.len b.cap,.agg #[.I c,.I d,.I e,.I f,.I g,.I h,.I i,.string j]] [.I,.I,.I] k l
def XC.c (a:R2)(b:Hp)(c:aN):Prop:=R1 71 #[.pointer a] [.I] b c
def Xr.c (a:R2)(b:Hp)(c:aN):Prop:=R1 72 #[.pointer a] [.I] b c
def Xv.c (a:R2)(b:Hp)(c:aN):Prop:=R1 73 #[.pointer a] [.I] b c
def X6.c (a:R2)(b:Hp)(c:Int->Int->Int->Int->Int->Int->Hp->Prop):Prop:=R1 74 #[.pointer a] [.I,.I,.I,.I,.I,.I] b c
def Yd.c (a:R2)(b:Int)(c:Hp)(d:aN):Prop:=R1 75 #[.pointer a,.I b] [.I] c d
def YZ.c (a:R2)(b:Int)(c:Hp)(d:Int->Int->Int->Hp->Prop):Prop:=R1 76 #[.pointer a,.I b] [.I,.I,.I] c d
def Qy.c (a b c:Int)(d:Hp)(e:aO):Prop:=R1 77 #[.agg #[.I a,.I b,.I c]] [.one .b] d e
def Qg.c (a:Int)(b:Hp)(c:aN):Prop:=R1 78 #[.I a] [.I] b c
def Wl.c (a:Sl)(b:Fv)(c:Hp)(d:aN):Prop:=R1 79 #[.slice a.a a.len a.cap,.func (.func b.f) b.first b.captured] [.I] c d
def ZZ.c (a b c:Int)(d e:Addr)(f:Hp)(g:aO):Prop:=R1 80 #[.agg #[.I a,.I b,.I c],.pointer (some d),.pointer (some e)] [.one .b] f g
def ZI.c (a b c:Int)(d:Hp)(e:aN):Prop:=R1 81 #[.agg #[.I a,.I b,.I c]] [.I] d e
def XY.c (a:R2)(b c d e f:Int)(g:Hp)(h:Int->Int->Hp->Prop):Prop:=R1 83 #[.pointer a,.I b,.agg #[.I c,.I d,.I e,.I f]] [.I,.I] g h
def Zr.c (a:R2)(b:Hp)(c:Option Addr->Hp->Prop):Prop:=R1 84 #[.pointer a] [.one .p] b c
def WF.c (a:Sl)(b:Hp)(c:Sl->Hp->Prop):Prop:=R1 90 #[.slice a.a a.len a.cap] [.one .s] b c
def Ku.c (a:Sl)(b c d e f:Int)(g:Hp)(h:Option Addr->Int->Hp->Prop):Prop:=R1 92 #[.slice a.a a.len a.cap,.agg #[.I b,.I c,.I d,.I e,.I f]] [.one .p,.I] g h
def Vq.c (a:Fv)(b:Hp)(c:Sl->Hp->Prop):Prop:=R1 93 #[.func (.func a.f) a.first a.captured] [.one .s] b c
def Zo.c (a:R2)(b:Int)(c:Hp)(d:aN):Prop:=R1 96 #[.pointer a,.I b] [.I] c d
def Zl.c (a:R2)(b c:Int)(d:Hp)(e:aN):Prop:=R1 97 #[.pointer a,.I b,.I c] [.I] d e
def Yi.c (a:R2)(b c d e f:Int)(g:Hp)(h:aN):Prop:=R1 98 #[.pointer a,.I b,.agg #[.I c,.I d,.I e,.I f]] [.I] g h
def Y9.c (a:R2)(b:Int)(c:Hp)(d:Bool->Int->Int->Int->Hp->Prop):Prop:=R1 99 #[.pointer a,.I b] [.one .b,.agg [bN,bN],.I] c d
def Yx.c (a:R2)(b:Int)(c:Hp)(d:Int->Int->Hp->Prop):Prop:=R1 100 #[.pointer a,.I b] [.I,.I] c d
def Zy.c (a:R2)(b:Hp)(c:aN):Prop:=R1 101 #[.pointer a] [.I] b c
def ZD.c (a:R2)(b:Hp)(c:aP):Prop:=R1 102 #[.pointer a] [] b c
def Xw.c (a:R2)(b:Hp)(c:aN):Prop:=R1 103 #[.pointer a] [.I] b c
def Xt.c (a:R2)(b:Hp)(c:aO):Prop:=R1 104 #[.pointer a] [.one .b] b c
def Xh.c (a:R2)(b:Hp)(c:aO):Prop:=R1 105 #[.pointer a] [.one .b] b c
def WD.c (a:R2)(b:Hp)(c:aO):Prop:=R1 106 #[.pointer a] [.one .b] b c
def Ya.c (a:R2)(b:Hp)(c:Sl->Hp->Prop):Prop:=R1 107 #[.pointer a] [.one .s] b c
def W0.c (a:R2)(b:Hp)(c:Sl->Hp->Prop):Prop:=R1 108 #[.pointer a] [.one .s] b c
def YB.c (a:R2)(b:Hp)(c:aN):Prop:=R1 109 #[.pointer a] [.I] b c
def Zn.c (a:R2)(b:Hp)(c:aN):Prop:=R1 110 #[.pointer a] [.I] b c
def Wk.c (a:Sl)(b:Fv)(c:Hp)(d:aN):Prop:=R1 111 #[.slice a.a a.len a.cap,.func (.func b.f) b.first b.captured] [.I] c d
def Zg.c (a:R2)(b:Addr)(c:Hp)(d:aO):Prop:=R1 112 #[.pointer a,.pointer (some b)] [.one .b] c d
def Y1.c (a:R2)(b:Int)(c:Hp)(d:aO):Prop:=R1 113 #[.pointer a,.I b] [.one .b] c d
def Zm.c (a:R2)(b:Int)(c:Hp)(d:aN):Prop:=R1 114 #[.pointer a,.I b] [.I] c d
def YC.c (a:R2)(b:Int)(c:Hp)(d:Int->Int->Hp->Prop):Prop:=R1 115 #[.pointer a,.I b] [.I,.I] c d
def X8.c (a:R2)(b c:Int)(d:Hp)(e:aN):Prop:=R1 116 #[.pointer a,.I b,.I c] [.I] d e
def QB.c (a b c d e:Int)(f:Hp)(g:aO):Prop:=R1 123 #[.agg #[.I a,.I b,.I c,.I d,.I e]] [.one .b] f g
def Q2.c (a:Int)(b:Hp)(c:Option Addr->Int->Hp->Prop):Prop:=R1 124 #[.I a] [.one .p,.I] b c
def Q0.c (a:Sl)(b:R2)(c:Int)(d:Hp)(e:Option Addr->Int->Hp->Prop):Prop:=R1 125 #[.slice a.a a.len a.cap,.pointer b,.I c] [.one .p,.I] d e
def Q1.c (a:Sl)(b:Int)(c:Hp)(d:Option Addr->Int->Hp->Prop):Prop:=R1 126 #[.slice a.a a.len a.cap,.I b] [.one .p,.I] c d
def ZT.c (a:Int)(b:Hp)(c:aN):Prop:=R1 129 #[.int .u64 a] [.I] b c
def Yz.c (a:R2)(b c:Int)(d:Hp)(e:aN):Prop:=R1 130 #[.pointer a,.I b,.I c] [.I] d e
def YX.c (a:R2)(b:Int)(c:Hp)(d:aO):Prop:=R1 131 #[.pointer a,.I b] [.one .b] c d
def Yu.c (a:R2)(b c d e:Int)(f:Hp)(g:Value->Hp->Prop):Prop:=R1 132 #[.pointer a,.agg #[.I b,.I c,.I d,.I e]] [.one .raw] f g
def ZB.c (a:R2)(b:Int)(c:Value)(d:Hp)(e:Value->Int->Int->Hp->Prop):Prop:=R1 133 #[.pointer a,.I b,c] [.one .raw,.agg [bN,bN]] d e
def Xj.c (a:R2)(b:Int)(c:Hp)(d:Int->Int->Hp->Prop):Prop:=R1 134 #[.pointer a,.I b] [.I,.I] c d
def Yc.c (a:R2)(b:Hp)(c:aN):Prop:=R1 135 #[.pointer a] [.I] b c
def Zb.c (a:R2)(b:Hp)(c:aP):Prop:=R1 136 #[.pointer a] [] b c
def WB.c (a:R2)(b:Hp)(c:aO):Prop:=R1 137 #[.pointer a] [.one .b] b c
def ZJ.c (a:R2)(b:Hp)(c:Int->Int->Hp->Prop):Prop:=R1 138 #[.pointer a] [.agg [bN,bN]] b c
def WK.c (a:R2)(b:Hp)(c:aO):Prop:=R1 139 #[.pointer a] [.one .b] b c
def XE.c (a:Sl)(b:Hp)(c:Sl->Hp->Prop):Prop:=R1 140 #[.slice a.a a.len a.cap] [.one .s] b c
def X0.c (a:R2)(b:Hp)(c:aN):Prop:=R1 141 #[.pointer a] [.I] b c
def XX.c (a:R2)(b:Hp)(c:aO):Prop:=R1 142 #[.pointer a] [.one .b] b c
def X9.c (a:R2)(b:Int)(c:Hp)(d:aN):Prop:=R1 143 #[.pointer a,.I b] [.I] c d
def XQ.c (a:R2)(b:Hp)(c:aO):Prop:=R1 144 #[.pointer a] [.one .b] b c
def XZ.c (a:R2)(b:Int)(c:Hp)(d:Option Addr->Hp->Prop):Prop:=R1 145 #[.pointer a,.I b] [.one .p] c d
def Yf.c (a:R2)(b:Int)(c:Hp)(d:Int->Int->Hp->Prop):Prop:=R1 146 #[.pointer a,.I b] [.I,.I] c d
def Wj.c (a:Sl)(b c:Bool)(d:Hp)(e:aO):Prop:=R1 147 #[.slice a.a a.len a.cap,.agg #[.bool b,.bool c]] [.one .b] d e
def WW.c (a:R2)(b:Hp)(c:aO):Prop:=R1 149 #[.pointer a] [.one .b] b c
def Qd.c (a:Hp)(b:Option Addr->Hp->Prop):Prop:=R1 150 #[] [.one .p] a b
def YY.c (a:R2)(b c d:Int)(e:Hp)(f:aN):Prop:=R1 152 #[.pointer a,.I b,.I c,.I d] [.I] e f
def QY.c (a:Int)(b:Hp)(c:Option Addr->Int->Hp->Prop):Prop:=R1 154 #[.I a] [.one .p,.I] b c
def Kw.c (a:Int)(b:Hp)(c:Option Addr->Int->Hp->Prop):Prop:=R1 155 #[.I a] [.one .p,.I] b c
def Qf.c (a b c:Int)(d:Hp)(e:Option Addr->Int->Hp->Prop):Prop:=R1 156 #[.agg #[.I a,.I b,.I c]] [.one .p,.I] d e
def ZY.c (a b:Int)(c:Hp)(d:Option Addr->Int->Hp->Prop):Prop:=R1 157 #[.I a,.I b] [.one .p,.I] c d
def ZH.c (a:Int)(b:Hp)(c:aN):Prop:=R1 168 #[.int .u64 a] [.I] b c
def Zj.c (a:R2)(b c:Int)(d:Hp)(e:aP):Prop:=R1 169 #[.pointer a,.I b,.I c] [] d e
def ZE.c (a:R2)(b:Int)(c:Hp)(d:aN):Prop:=R1 170 #[.pointer a,.I b] [.I] c d
def Yh.c (a:R2)(b:Int)(c:Hp)(d:Int->Int->Hp->Prop):Prop:=R1 171 #[.pointer a,.I b] [.I,.I] c d
def Zc.c (a:R2)(b c d:Int)(e:Hp)(f:Value->Int->Int->Hp->Prop):Prop:=R1 172 #[.pointer a,.I b,.I c,.I d] [.one .raw,.agg [bN,bN]] e f
def Ye.c (a:R2)(b:Int)(c:Hp)(d:Int->Int->Hp->Prop):Prop:=R1 173 #[.pointer a,.I b] [.I,.I] c d
def Wz.c (a:R2)(b:Int)(c:Hp)(d:Sl->Int->Hp->Prop):Prop:=R1 174 #[.pointer a,.I b] [.one .s,.I] c d
def YF.c (a:R2)(b c:Int)(d:Sl)(e:Hp)(f:aP):Prop:=R1 175 #[.pointer a,.I b,.I c,.slice d.a d.len d.cap] [] e f
def WE.c (a:R2)(b c:Int)(d:Hp)(e:Sl->Int->Hp->Prop):Prop:=R1 176 #[.pointer a,.I b,.I c] [.one .s,.I] d e
def Yp.c (a:R2)(b:Int)(c:Hp)(d:aN):Prop:=R1 177 #[.pointer a,.I b] [.I] c d
def Yo.c (a:R2)(b:Int)(c:Sl)(d:Hp)(e:aN):Prop:=R1 178 #[.pointer a,.I b,.slice c.a c.len c.cap] [.I] d e
def WS.c (a:R2)(b c:Int)(d:Hp)(e:Int->Int->Hp->Prop):Prop:=R1 179 #[.pointer a,.I b,.I c] [.I,.I] d e
def Zx.c (a:R2)(b c:Int)(d:Hp)(e:Value->Int->Int->Hp->Prop):Prop:=R1 180 #[.pointer a,.I b,.I c] [.one .raw,.agg [bN,bN]] d e
def YR.c (a:R2)(b c:Int)(d:Hp)(e:Sl->Int->Hp->Prop):Prop:=R1 181 #[.pointer a,.I b,.I c] [.one .s,.I] d e
def Ym.c (a:R2)(b:Hp)(c:aO):Prop:=R1 182 #[.pointer a] [.one .b] b c
def Xc.c (a:R2)(b:Hp)(c:Sl->Hp->Prop):Prop:=R1 183 #[.pointer a] [.one .s] b c
def W4.c (a:R2)(b:Int)(c:Hp)(d:Value->Hp->Prop):Prop:=R1 184 #[.pointer a,.I b] [.one .raw] c d
def Wp.c (a:Sl)(b:Hp)(c:Sl->Hp->Prop):Prop:=R1 185 #[.slice a.a a.len a.cap] [.one .s] b c
def Zz.c (a:R2)(b c:Int)(d:Sl)(e:Hp)(f:aP):Prop:=R1 186 #[.pointer a,.I b,.agg #[.I c,.slice d.a d.len d.cap]] [] e f
def WR.c (a:R2)(b:Int)(c:Hp)(d:aN):Prop:=R1 187 #[.pointer a,.I b] [.I] c d
def XR.c (a:R2)(b:Hp)(c:Sl->Hp->Prop):Prop:=R1 188 #[.pointer a] [.one .s] b c
def Xi.c (a:R2)(b:Sl)(c:Hp)(d:aP):Prop:=R1 189 #[.pointer a,.slice b.a b.len b.cap] [] c d
def WY.c (a:R2)(b:Hp)(c:Sl->Hp->Prop):Prop:=R1 190 #[.pointer a] [.one .s] b c
def Yw.c (a:R2)(b:Int)(c:Hp)(d:Sl->Int->Hp->Prop):Prop:=R1 191 #[.pointer a,.I b] [.one .s,.I] c d
def Xb.c (a:R2)(b c:Int)(d:Hp)(e:aN):Prop:=R1 192 #[.pointer a,.I b,.I c] [.I] d e
def XI.c (a:R2)(b c:Int)(d:Hp)(e:aN):Prop:=R1 193 #[.pointer a,.I b,.I c] [.I] d e
def YD.c (a:R2)(b:Hp)(c:Sl->Hp->Prop):Prop:=R1 194 #[.pointer a] [.one .s] b c
def Xo.c (a:R2)(b:Int)(c:Hp)(d:aN):Prop:=R1 195 #[.pointer a,.I b] [.I] c d
def XA.c (a:R2)(b c:Int)(d:Hp)(e:aN):Prop:=R1 196 #[.pointer a,.I b,.I c] [.I] d e
def Yy.c (a:R2)(b c:Int)(d:Hp)(e:aN):Prop:=R1 197 #[.pointer a,.I b,.I c] [.I] d e
def Xp.c (a:R2)(b:Hp)(c:Sl->Hp->Prop):Prop:=R1 198 #[.pointer a] [.one .s] b c
def WA.c (a:R2)(b:Int)(c:Sl)(d:Hp)(e:aN):Prop:=R1 199 #[.pointer a,.I b,.slice c.a c.len c.cap] [.I] d e
def YG.c (a:R2)(b:Hp)(c:aO):Prop:=R1 200 #[.pointer a] [.one .b] b c
def XH.c (a:Sl)(b:Int)(c:Hp)(d:Sl->Hp->Prop):Prop:=R1 201 #[.slice a.a a.len a.cap,.I b] [.one .s] c d
def YA.c (a:R2)(b:Int)(c:Hp)(d:aN):Prop:=R1 202 #[.pointer a,.I b] [.I] c d
def Wn.c (a:Sl)(b c:Bool)(d:Hp)(e:aN):Prop:=R1 203 #[.slice a.a a.len a.cap,.agg #[.bool b,.bool c]] [.I] d e
def Zs.c (a:R2)(b c:Int)(d:Hp)(e:aP):Prop:=R1 204 #[.pointer a,.I b,.I c] [] d e
def Xs.c (a:R2)(b:Int)(c:Hp)(d:Option Addr->Int->Hp->Prop):Prop:=R1 211 #[.pointer a,.I b] [.one .p,.I] c d
def WZ.c (a:R2)(b:Int)(c:Hp)(d:aN):Prop:=R1 212 #[.pointer a,.I b] [.I] c d
def WC.c (a:R2)(b:Hp)(c:Sl->Int->Hp->Prop):Prop:=R1 213 #[.pointer a] [.one .s,.I] b c
def Xf.c (a:R2)(b:Int)(c:Hp)(d:Sl->Int->Hp->Prop):Prop:=R1 214 #[.pointer a,.I b] [.one .s,.I] c d
def YU.c (a:R2)(b c d:Int)(e:Hp)(f:Int->Int->Hp->Prop):Prop:=R1 215 #[.pointer a,.I b,.I c,.I d] [.I,.I] e f
def Za.c (a:R2)(b:Int)(c:Hp)(d:aN):Prop:=R1 216 #[.pointer a,.I b] [.I] c d
def W3.c (a:Sl)(b:Hp)(c:aP):Prop:=R1 217 #[.slice a.a a.len a.cap] [] b c
def W1.c (a:R2)(b:Sl)(c:Hp)(d:aN):Prop:=R1 218 #[.pointer a,.slice b.a b.len b.cap] [.I] c d
def Xg.c (a:R2)(b:Int)(c:Hp)(d:Sl->Hp->Prop):Prop:=R1 219 #[.pointer a,.I b] [.one .s] c d
def Xn.c (a:R2)(b:Fv)(c:Hp)(d:Sl->Hp->Prop):Prop:=R1 220 #[.pointer a,.func (.func b.f) b.first b.captured] [.one .s] c d
def XG.c (a:R2)(b:Int)(c:Hp)(d:Sl->Hp->Prop):Prop:=R1 221 #[.pointer a,.I b] [.one .s] c d
def WJ.c (a:R2)(b:Int)(c:Sl)(d:Hp)(e:Bool->Int->Hp->Prop):Prop:=R1 222 #[.pointer a,.I b,.slice c.a c.len c.cap] [.one .b,.I] d e
def YH.c (a:R2)(b:Int)(c:Hp)(d:Sl->Hp->Prop):Prop:=R1 223 #[.pointer a,.I b] [.one .s] c d
def XT.c (a:R2)(b c:Int)(d:Hp)(e:aN):Prop:=R1 224 #[.pointer a,.I b,.I c] [.I] d e
def XF.c (a:R2)(b c:Int)(d:Hp)(e:aN):Prop:=R1 225 #[.pointer a,.I b,.I c] [.I] d e
def Yg.c (a:R2)(b c:Int)(d:Hp)(e:aN):Prop:=R1 226 #[.pointer a,.I b,.I c] [.I] d e
def Wf.c (a:Sl)(b:Fv)(c:Hp)(d:Sl->Hp->Prop):Prop:=R1 227 #[.slice a.a a.len a.cap,.func (.func b.f) b.first b.captured] [.one .s] c d
def Yb.c (a b:Int)(c:R2)(d:Addr)(e:Hp)(f:aO):Prop:=R1 228 #[.agg #[.I a,.I b,.pointer c],.pointer (some d)] [.one .b] e f
def XP.c (a:R2)(b:Hp)(c:aN):Prop:=R1 229 #[.pointer a] [.I] b c
def ZK.c (a:Sl)(b:Int)(c:Hp)(d:aN):Prop:=R1 230 #[.slice a.a a.len a.cap,.I b] [.I] c d
def Xm.c (a:R2)(b:Int)(c:Hp)(d:Sl->Hp->Prop):Prop:=R1 231 #[.pointer a,.I b] [.one .s] c d
def WL.c (a:Sl)(b:Fv)(c:Hp)(d:aP):Prop:=R1 232 #[.slice a.a a.len a.cap,.func (.func b.f) b.first b.captured] [] c d
def XN.c (a b:Int)(c:Addr)(d:Hp)(e:aN):Prop:=R1 233 #[.I a,.I b,.pointer (some c)] [.I] d e
def Qx.c (a:Sl)(b:Hp)(c:aN):Prop:=R1 234 #[.slice a.a a.len a.cap] [.I] b c
def Xq.c (a:R2)(b c d:Int)(e:Sl)(f:Hp)(g:aN):Prop:=R1 235 #[.pointer a,.I b,.I c,.I d,.slice e.a e.len e.cap] [.I] f g
def XW.c (a:R2)(b c:Int)(d e:Bool)(f:Hp)(g:aN):Prop:=R1 236 #[.pointer a,.I b,.I c,.agg #[.bool d,.bool e]] [.I] f g
def X5.c (a:R2)(b:Int)(c:Hp)(d:Sl->Hp->Prop):Prop:=R1 237 #[.pointer a,.I b] [.one .s] c d
def X1.c (a:R2)(b:Int)(c:Hp)(d:Sl->Int->Hp->Prop):Prop:=R1 238 #[.pointer a,.I b] [.one .s,.I] c d
def QZ.c (a:Sl)(b:Hp)(c:aO):Prop:=R1 239 #[.slice a.a a.len a.cap] [.one .b] b c
def Qp.c (a:Sl)(b:Int)(c:Hp)(d:aP):Prop:=R1 240 #[.slice a.a a.len a.cap,.I b] [] c d
def Yl.c (a:R2)(b c:Int)(d:Hp)(e:aN):Prop:=R1 241 #[.pointer a,.I b,.I c] [.I] d e
def XU.c (a:R2)(b:Int)(c:Hp)(d:aO):Prop:=R1 242 #[.pointer a,.I b] [.one .b] c d
def Zi.c (a:R2)(b c:Int)(d:Hp)(e:aP):Prop:=R1 243 #[.pointer a,.I b,.I c] [] d e
def XM.c (a:R2)(b:Fv)(c:Hp)(d:Sl->Hp->Prop):Prop:=R1 244 #[.pointer a,.agg #[.func (.func b.f) b.first b.captured]] [.one .s] c d
def XL.c (a:R2)(b:Hp)(c:aN):Prop:=R1 245 #[.pointer a] [.I] b c
def Y4.c (a:R2)(b:Sl)(c:Hp)(d:Sl->Int->Hp->Prop):Prop:=R1 246 #[.pointer a,.slice b.a b.len b.cap] [.one .s,.I] c d
def Ww.c (a:R2)(b:Hp)(c:Option Addr->Hp->Prop):Prop:=R1 247 #[.pointer a] [.one .p] b c
def Wy.c (a:R2)(b:Hp)(c:Option Addr->Hp->Prop):Prop:=R1 248 #[.pointer a] [.one .p] b c
def ZC.c (a:R2)(b:Int)(c:Hp)(d:Option Addr->Hp->Prop):Prop:=R1 250 #[.pointer a,.I b] [.one .p] c d
def Y3.c (a:R2)(b:Hp)(c:Int->Bool->Hp->Prop):Prop:=R1 251 #[.pointer a] [.I,.one .b] b c
def XS.c (a:R2)(b c:Int)(d:Hp)(e:Int->Int->Hp->Prop):Prop:=R1 252 #[.pointer a,.I b,.I c] [.I,.I] d e
def Y8.c (a:R2)(b:Int)(c:Hp)(d:aO):Prop:=R1 253 #[.pointer a,.I b] [.one .b] c d
def XO.c (a:R2)(b c:Int)(d:Hp)(e:aN):Prop:=R1 254 #[.pointer a,.I b,.I c] [.I] d e
def Ys.c (a:R2)(b c d:Int)(e:Hp)(f:aN):Prop:=R1 255 #[.pointer a,.I b,.I c,.I d] [.I] e f
def Kv.c (a b c d:Int)(e:Hp)(f:Option Addr->Int->Hp->Prop):Prop:=R1 256 #[.I a,.agg #[.I b,.I c,.I d]] [.one .p,.I] e f
def Wb.c (a:Sl)(b:Int)(c:Fv)(d:Hp)(e:Int->Bool->Hp->Prop):Prop:=R1 257 #[.slice a.a a.len a.cap,.I b,.func (.func c.f) c.first c.captured] [.I,.one .b] d e
def YW.c (a b:Int)(c:R2)(d:Int)(e:Hp)(f:aN):Prop:=R1 258 #[.agg #[.I a,.I b,.pointer c],.I d] [.I] e f
def Wh.c (a:Sl)(b:Int)(c:Sl)(d:Hp)(e:Sl->Hp->Prop):Prop:=R1 259 #[.slice a.a a.len a.cap,.I b,.slice c.a c.len c.cap] [.one .s] d e
def Xk.c (a:Sl)(b:Hp)(c:Sl->Hp->Prop):Prop:=R1 260 #[.slice a.a a.len a.cap] [.one .s] b c
def Z0.c (a:Sl)(b:Fv)(c:Hp)(d:aP):Prop:=R1 261 #[.slice a.a a.len a.cap,.func (.func b.f) b.first b.captured] [] c d
def W9.c (a:R2)(b:Int)(c:Hp)(d:Bool->Int->Hp->Prop):Prop:=R1 263 #[.pointer a,.I b] [.one .b,.I] c d
def Xe.c (a:R2)(b:Sl)(c:Hp)(d:Bool->Int->Hp->Prop):Prop:=R1 264 #[.pointer a,.slice b.a b.len b.cap] [.one .b,.I] c d
def Yq.c (a:R2)(b c:Int)(d:Hp)(e:aP):Prop:=R1 265 #[.pointer a,.I b,.I c] [] d e
def Wi.c (a:Sl)(b:Fv)(c:Hp)(d:aN):Prop:=R1 266 #[.slice a.a a.len a.cap,.func (.func b.f) b.first b.captured] [.I] c d
def WM.c (a:Sl)(b c d:Int)(e:Fv)(f:Hp)(g:aP):Prop:=R1 267 #[.slice a.a a.len a.cap,.I b,.I c,.I d,.func (.func e.f) e.first e.captured] [] f g
def Wx.c (a:Sl)(b:Fv)(c:Hp)(d:aO):Prop:=R1 268 #[.slice a.a a.len a.cap,.func (.func b.f) b.first b.captured] [.one .b] c d
def YI.c (a:Int)(b:Addr)(c:Hp)(d:aO):Prop:=R1 269 #[.I a,.pointer (some b)] [.one .b] c d
def Wo.c (a:Sl)(b:Int)(c:Hp)(d:aO):Prop:=R1 270 #[.slice a.a a.len a.cap,.I b] [.one .b] c d
def YS.c (a:R2)(b c:Int)(d:Hp)(e:Sl->Int->Hp->Prop):Prop:=R1 271 #[.pointer a,.I b,.I c] [.one .s,.I] d e
def YV.c (a:R2)(b c:Int)(d e:Bool)(f:Hp)(g:aP):Prop:=R1 272 #[.pointer a,.I b,.I c,.agg #[.bool d,.bool e]] [] f g
def Xy.c (a:R2)(b:Int)(c:Hp)(d:Int->Int->Bool->Hp->Prop):Prop:=R1 273 #[.pointer a,.I b] [.I,.I,.one .b] c d
def WO.c (a:Sl)(b:Hp)(c:Sl->Hp->Prop):Prop:=R1 274 #[.slice a.a a.len a.cap] [.one .s] b c
def ZF.c (a:R2)(b:Int)(c:Hp)(d:aN):Prop:=R1 275 #[.pointer a,.I b] [.I] c d
def W5.c (a b c d:Int)(e:Hp)(f:aO):Prop:=R1 276 #[.agg #[.I a,.I b],.agg #[.I c,.I d]] [.one .b] e f
def ZA.c (a:R2)(b:Hp)(c:Int->Int->Hp->Prop):Prop:=R1 277 #[.pointer a] [.I,.I] b c
def X3.c (a:Sl)(b:Hp)(c:aN):Prop:=R1 278 #[.slice a.a a.len a.cap] [.I] b c
def Qm.c (a:Option Nat)(b:Hp)(c:Fv->Hp->Prop):Prop:=R1 279 #[.map a] [.one .fn] b c
def Zt.c (a:R2)(b c:Int)(d:Hp)(e:aN):Prop:=R1 280 #[.pointer a,.I b,.I c] [.I] d e
def Yn.c (a:R2)(b:Int)(c:Hp)(d:aN):Prop:=R1 281 #[.pointer a,.I b] [.I] c d
def Km.c (a:Sl)(b:Int)(c:Hp)(d:aP):Prop:=R1 283 #[.slice a.a a.len a.cap,.I b] [] c d
def Yv.c (a:R2)(b:Int)(c:Hp)(d:Bool->Int->Hp->Prop):Prop:=R1 285 #[.pointer a,.I b] [.one .b,.I] c d
def Zk.c (a:R2)(b c:Int)(d:Hp)(e:aP):Prop:=R1 286 #[.pointer a,.I b,.I c] [] d e
def Wr.c (a:Sl)(b c:Int)(d:Fv)(e:Hp)(f:aP):Prop:=R1 287 #[.slice a.a a.len a.cap,.I b,.I c,.func (.func d.f) d.first d.captured] [] e f
def WV.c (a:Sl)(b:Fv)(c:Hp)(d:aN):Prop:=R1 295 #[.slice a.a a.len a.cap,.func (.func b.f) b.first b.captured] [.I] c d
def WG.c (a:Sl)(b:Int)(c:Hp)(d:aN):Prop:=R1 296 #[.slice a.a a.len a.cap,.I b] [.I] c d
def Yk.c (a:R2)(b:Int)(c:Hp)(d:Int->Int->Hp->Prop):Prop:=R1 297 #[.pointer a,.I b] [.I,.I] c d
def Zh.c (a:R2)(b:Int)(c:Sl)(d:Hp)(e:aP):Prop:=R1 298 #[.pointer a,.I b,.slice c.a c.len c.cap] [] d e
def Wg.c (a:Sl)(b:Fv)(c:Hp)(d:aO):Prop:=R1 300 #[.slice a.a a.len a.cap,.func (.func b.f) b.first b.captured] [.one .b] c d
def YN.c (a b:Bool)(c:Hp)(d:aO):Prop:=R1 301 #[.agg #[.bool a,.bool b]] [.one .b] c d
def Wm.c (a:Sl)(b:Fv)(c:Hp)(d:aN):Prop:=R1 314 #[.slice a.a a.len a.cap,.func (.func b.f) b.first b.captured] [.I] c d
set_option maxRecDepth 100000
def Zn.h:Hn:=.q .o1 (.q (.q .o3 .aK) (.q .o1 (.q (.q .o6 (.k (.loop [(3,.I),(14,.I)] (.q .o1 (.q (.c .l .l) (.q (.k (.q .o5 .o7)) .o2)))))) .aL)))
abbrev _root_.aQ(a:Addr)(n:Nat)(h:Hp)(K:Int->Prop):Prop:=LdI .i64 (a.add n) h K
abbrev _root_.aR(a:Addr)(n:Nat)(v:Value)(h:Hp)(K:Hp->Prop):Prop:=St1 (a.add n) v h K
abbrev _root_.aX(a:Addr)(n:Nat)(h:Hp)(K:Sl->Prop):Prop:=LdS (a.add n) h K
abbrev _root_.aY(a:Addr)(n:Nat)(h:Hp)(K:Option Addr->Prop):Prop:=LdP (a.add n) h K
abbrev _root_.aZ(a:Addr)(n:Nat)(h:Hp)(K:Bool->Prop):Prop:=LdB (a.add n) h K
abbrev _root_.bA(a:Addr)(n:Nat)(h:Hp)(K:Value->Prop):Prop:=LdR (a.add n) h K
abbrev _root_.bB(a:Addr)(n:Nat)(h:Hp)(K:Option Nat->Prop):Prop:=LdM (a.add n) h K
abbrev _root_.bC(a:Addr)(n:Nat)(h:Hp)(K:ByteArray->Prop):Prop:=LdT (a.add n) h K
abbrev _root_.bD(p:Option Addr)(n:Nat)(h:Hp)(K:Int->Prop):Prop:=NilP p λa=>LdI .i64 (a.add n) h K
abbrev _root_.bE(p:Option Addr)(n:Nat)(h:Hp)(K:Sl->Prop):Prop:=NilP p λa=>LdS (a.add n) h K
abbrev _root_.bF(p:Option Addr)(n:Nat)(h:Hp)(K:Option Addr->Prop):Prop:=NilP p λa=>LdP (a.add n) h K
abbrev _root_.bG(p:Option Addr)(n:Nat)(h:Hp)(K:Bool->Prop):Prop:=NilP p λa=>LdB (a.add n) h K
abbrev _root_.bH(p:Option Addr)(n:Nat)(h:Hp)(K:Value->Prop):Prop:=NilP p λa=>LdR (a.add n) h K
abbrev _root_.bI(p:Option Addr)(n:Nat)(h:Hp)(K:Option Nat->Prop):Prop:=NilP p λa=>LdM (a.add n) h K
abbrev _root_.bJ(p:Option Addr)(n:Nat)(h:Hp)(K:ByteArray->Prop):Prop:=NilP p λa=>LdT (a.add n) h K
abbrev _root_.aS(S:Hp->Prop)(a:Addr)(n:Nat)(K:Int->Prop):Prop:=LdH S bN (a.add n) K
abbrev _root_.aT(S:Hp->Prop)(a:Addr)(n:Nat)(K:Sl->Prop):Prop:=LdH S .s (a.add n) K
abbrev _root_.aU(S:Hp->Prop)(a:Addr)(n:Nat)(K:Option Addr->Prop):Prop:=LdH S .p (a.add n) K
abbrev _root_.bL(e:Int)(K:Int->Prop):Prop:=Ar .i64 e K
abbrev _root_.bM(a:Addr)(h:Hp)(K:Int->Prop):Prop:=LdI .i64 a h K
abbrev _root_.aV(c:Array Value)(t:Nat)(h:Hp)(K:Addr->Hp->Prop):Prop:=Nw (.cells c t (0,0)) h K
def Zn.v (a:R2)(b:Hp)(c:aN):Prop:=XX.c a b λd e=>If (!d) (c 0 e) (bE a 1 e λg=>W8 [bN,bN] (λh=>h 0 0 e) λi (j:Int) (k:Int) l=>If (k<((g.len:Nat):Int)) (Ix g.a g.len k 1 λm=>LdM m l λn=>MLen .i64 .b n l λo=>Nn k<|bL (o*2^(min k.toNat IntKind.i64.bits)) λp=>bL (j+p) λq=>bL (k+1) λr=>i q r l) (c j l))
theorem Zn.o {a b c}(d:Zn.v a b c):Zn.c a b c:=Wa Tryz.func110 (x:=Zn.h) (R0 d)
def XX.h:Hn:=.q .o1 (.q (.reg (.seq [.op,.op,.op,.grd true 5 (RI.ops 5),.op])) .l)
def XX.v (a:R2)(b:Hp)(c:aO):Prop:=JnB (λd e=>c d e) λf=>If (!a.isNone) (bD a 0 b λh=>f (decide (h>0)) b) (f false b)
theorem XX.o {a b c}(d:XX.v a b c):XX.c a b c:=Wa Tryz.func142 (x:=XX.h) (R0 d)
def QY.h:Hn:=.q .o2 (.q (.q (.reg (.seq [.op,.op,.op,.grd false 2 [.op,.op]])) .aJ) (.q .o4 (.q (.q .o1 (.k (.loop [(5,.I)] (.q (.q .o3 (.c .l .l)) (.q (.k (.o 11)) .o3))))) (.q .o3 .l))))
def QY.v (a:Int)(b:Hp)(c:Option Addr->Int->Hp->Prop):Prop:=JnB (λd e=>If d (c none 1 e) (Nw (.cells #[.I a,.slice none 0 0] 218 (0,0)) e λf g=>W8 [bN] (λh=>h 1 g) λi (j:Int) k=>If (j<=a) (NilP (some f) λl=>LdS (l.add 1) k λm=>Nw (.map #[] 0) k λn o=>Nw (.cells #[.map (some n.block)] 219 (0,0)) o λp q=>App m 1 8 219 [.map none] ⟨some p,1,1⟩ q λr s=>NilP (some f) λt=>St1 (t.add 1) (.slice r.a r.len r.cap) s λu=>Ar .i64 (j*2) λv=>i v u) (c (some f) 0 k))) λw=>If (a<1) (w true b) (w (decide (a>1024)) b)
theorem QY.o {a b c}(d:QY.v a b c):QY.c a b c:=Wa Tryz.func154 (x:=QY.h) (R0 d)
def XA.h:Hn:=.q .o1 (.q (.q .o5 (.q .o2 .aJ)) (.q (.q .o2 (.k (.loop [(8,.I)] (.q (.q .o5 (.c .l .l)) (.q (.k (.q .o4 .aK)) .o3))))) (.q .o4 .aM)))
def XA.v (a:R2)(b c:Int)(d:Hp)(e:aN):Prop:=Yl.c a b c d λf g=>If (f != 0) (e f g) (W8 [bN] (λh=>h b g) λi (j:Int) k=>bL (b+c) λl=>If (j<l) (XU.c a j k λm n=>If (!m) (e 4 n) (bL (j+1) λo=>i o n)) (Zi.c a b c k λp=>e 0 p))
theorem XA.o {a b c d e}(f:XA.v a b c d e):XA.c a b c d e:=Wa Tryz.func196 (x:=XA.h) (R0 f)
def Yg.h:Hn:=.q .o1 (.q (.q .o5 (.q .o2 .aJ)) (.q (.q .o2 (.k (.loop [(8,.I)] (.q (.q .o5 (.c .l .l)) (.q (.k (.q .o3 .aK)) .o3))))) (.q .o4 .aM)))
def Yg.v (a:R2)(b c:Int)(d:Hp)(e:aN):Prop:=Yl.c a b c d λf g=>If (f != 0) (e f g) (W8 [bN] (λh=>h b g) λi (j:Int) k=>bL (b+c) λl=>If (j<l) (XU.c a j k λm n=>If m (e 9 n) (bL (j+1) λo=>i o n)) (Yq.c a b c k λp=>e 0 p))
theorem Yg.o {a b c d e}(f:Yg.v a b c d e):Yg.c a b c d e:=Wa Tryz.func226 (x:=Yg.h) (R0 f)
def Yl.h:Hn:=.q .o1 (.q (.k (.q .o4 (.c .aM (.q (.reg (.seq [.op,.op,.op,.grd false 2 [.op,.op],.op,.grd false 6 (RI.ops 6),.op,.grd false 8 (RI.ops 8),.op])) .aK)))) .aM)
def Yl.v (a:R2)(b c:Int)(d:Hp)(e:aN):Prop:=XX.c a d λf g=>If (!f) (e 5 g) (JnB (λh i=>JnB (λj k=>JnB (λl m=>If l (e 1 m) (e 0 m)) λn=>If j (n true k) (bD a 0 k λp=>bL (p-b) λq=>n (decide (c>q)) k)) λr=>If h (r true i) (bD a 0 i λt=>r (decide (b>t)) i)) λu=>If (b<0) (u true g) (u (decide (c<1)) g))
theorem Yl.o {a b c d e}(f:Yl.v a b c d e):Yl.c a b c d e:=Wa Tryz.func241 (x:=Yl.h) (R0 f)
def XU.h:Hn:=.q .o1 (.q (.q (.reg (.seq [.op,.op,.op,.op,.grd false 2 [.op,.op],.op,.grd false 6 (RI.ops 6)])) .aK) (.q .o10 .aL))
def XU.v (a:R2)(b:Int)(c:Hp)(d:aO):Prop:=XX.c a c λe f=>JnB (λg h=>JnB (λi j=>If i (d false j) (Xy.c a b j λk l m n=>d m n)) λo=>If g (o true h) (bD a 0 h λq=>o (decide (b≥q)) h)) λr=>If (!e) (r true f) (r (decide (b<0)) f)
theorem XU.o {a b c d}(e:XU.v a b c d):XU.c a b c d:=Wa Tryz.func242 (x:=XU.h) (R0 e)
def Zi.h:Hn:=.q .o2 (.k (.loop [(6,.I)] (.q (.q .o5 (.c .l .l)) (.k (.q .o10 (.q .o9 (.q .o5 (.q .o6 (.q (.q .o4 (.q .o3 (.c .o6 .l))) .o2)))))))))
def Zi.v (a:R2)(b c:Int)(d:Hp)(e:aP):Prop:=W8 [bN] (λf=>f b d) λg (h:Int) i=>bL (b+c) λj=>If (h<j) (Xy.c a h i λk l m n=>bE a 1 n λp=>Ix p.a p.len k 1 λq=>LdM q n λr=>MDel .i64 .b r l n λs=>Nn k<|bL ((1:Int)*2^(min k.toNat IntKind.i64.bits)) λt=>bL (l+t) λu=>bL (h-l) λv=>Yq.c a l v s λw=>bL (b+c) λx=>If (u>x) (bL (u-x) λy=>Yq.c a x y w λz=>g u z) (g u w)) (e i)
theorem Zi.o {a b c d e}(f:Zi.v a b c d e):Zi.c a b c d e:=Wa Tryz.func243 (x:=Zi.h) (R0 f)
def XS.h:Hn:=.q .o2 (.q (.k (.q .o4 (.c .aL (.q (.reg (.seq [.op,.op,.op,.grd false 2 [.op,.op],.op,.grd false 2 [.op,.op],.op,.grd false 2 [.op,.op],.op,.grd false 5 (RI.ops 5),.op])) .aJ)))) (.q (.q .o6 (.k (.loop [(42,.I)] (.q .o1 (.q (.c .l .l) (.q (.k (.q .o5 (.q (.reg (.seq [.op,.op,.op,.op,.op,.op,.op,.grd true 3 (RI.ops 3)])) (.c (.q .o5 (.q .o4 (.q .o3 .l))) .l)))) .o2)))))) .aL))
def XS.v (a:R2)(b c:Int)(d:Hp)(e:Int->Int->Hp->Prop):Prop:=XX.c a d λf g=>If (!f) (e 0 5 g) (JnB (λh i=>JnB (λj k=>JnB (λl m=>JnB (λn o=>If n (e 0 1 o) (bE a 1 o λq=>W8 [bN] (λr=>r 0 o) λs (t:Int) u=>If (t<((q.len:Nat):Int)) (Ix q.a q.len t 1 λv=>LdM v u λw=>Nn t<|bL ((1:Int)*2^(min t.toNat IntKind.i64.bits)) λx=>JnB (λy z=>If y (Qm.c w z λaa ab=>Vq.c aa ab λac ad=>X3.c ac ad λae af=>Zi.c a ae b af λag=>e ae 0 ag) (bL (t+1) λah=>s ah z)) λai=>If (x≥(if c>b then c else b)) (MLen .i64 .b w u λaj=>ai (decide (aj>0)) u) (ai false u)) (e 0 6 u))) λak=>If l (ak true m) (bL (c-1) λal=>ak ((bits .and .i64 c al) != 0) m)) λam=>If j (am true k) (am (decide (c>1024)) k)) λan=>If h (an true i) (an (decide (c<1)) i)) λao=>If (b<1) (ao true g) (ao (decide (b>1024)) g))
theorem XS.o {a b c d e}(f:XS.v a b c d e):XS.c a b c d e:=Wa Tryz.func252 (x:=XS.h) (R0 f)
def Yq.h:Hn:=.k (.loop [(1,.I),(2,.I)] (.q (.q .o2 (.c .l .l)) (.k (.q .o1 (.q (.k (.loop [(6,.I)] (.q (.q (.reg (.seq [.op,.op,.op,.op,.op,.op,.op,.op,.op,.op,.grd true 5 (RI.ops 5)])) (.c .l .l)) (.k .o3)))) (.q .o4 (.oq 10)))))))
def Yq.v (a:R2)(b c:Int)(d:Hp)(e:aP):Prop:=W8 [bN,bN] (λf=>f b c d) λg (h:Int) (i:Int) j=>If (i>0) (W8 [bN] (λk=>k 0 j) λl (m:Int) n=>bL (m+1) λo=>Nn o <| bL (m+1) λp=>Nn p<|bL ((h.fdiv (2^(min o.toNat IntKind.i64.bits)))*2^(min p.toNat IntKind.i64.bits)) λq=>JnB (λr s=>If r (bL (m+1) λt=>l t s) (Zk.c a m h s λu=>Nn m<|bL ((1:Int)*2^(min m.toNat IntKind.i64.bits)) λv=>bL (h+v) λw=>Nn m<|bL ((1:Int)*2^(min m.toNat IntKind.i64.bits)) λx=>bL (i-x) λy=>g w y u)) λz=>If (q==h) (bL (m+1) λaa=>Nn aa<|bL ((1:Int)*2^(min aa.toNat IntKind.i64.bits)) λab=>z (decide (ab<=i)) n) (z false n)) (e j)
theorem Yq.o {a b c d e}(f:Yq.v a b c d e):Yq.c a b c d e:=Wa Tryz.func265 (x:=Yq.h) (R0 f)
def Xy.h:Hn:=.q .o3 (.q (.q .o6 (.k (.loop [(15,.I)] (.q .o1 (.q (.c .l .l) (.q (.k (.q .o5 (.q .o6 (.q .o3 (.c (.q .o5 .l) .l))))) .o2)))))) (.q .o3 .l))
def Xy.v (a:R2)(b:Int)(c:Hp)(d:Int->Int->Bool->Hp->Prop):Prop:=bE a 1 c λf=>W8 [bN] (λg=>g 0 c) λh (i:Int) j=>If (i<((f.len:Nat):Int)) (Ix f.a f.len i 1 λk=>LdM k j λl=>Nn i <| Nn i<|bL ((b.fdiv (2^(min i.toNat IntKind.i64.bits)))*2^(min i.toNat IntKind.i64.bits)) λm=>Lk .i64 .b l m j λn=>If (n.getD false) (d i m true j) (bL (i+1) λo=>h o j)) (d 0 0 false j)
theorem Xy.o {a b c d}(e:Xy.v a b c d):Xy.c a b c d:=Wa Tryz.func273 (x:=Xy.h) (R0 e)
def Zk.h:Hn:=.q (.k (.loop [(1,.I),(2,.I)] (.q (.q (.reg (.quiet [.op,.op,.op,.op,.op,.op,.op,.op,.op,.grd true 12 (RI.ops 12)])) (.c .l .l)) (.k (.q (.reg (.tail 11 (RI.ops 11) [.op])) (.q .o8 .o3)))))) .o9
def Zk.v (a:R2)(b c:Int)(d:Hp)(e:aP):Prop:=W8 [bN,bN] (λf=>f b c d) λg (h:Int) (i:Int) j=>bL (h+1) λk=>bE a 1 j λm=>JnB (λn o=>If n (bE a 1 o λq=>Ix q.a q.len h 1 λr=>LdM r o λs=>Nn h<|bL ((1:Int)*2^(min h.toNat IntKind.i64.bits)) λt=>MDel .i64 .b s (bits .xor .i64 i t) o λu=>bL (h+1) λv=>Nn v <| bL (h+1) λw=>Nn w<|bL ((i.fdiv (2^(min v.toNat IntKind.i64.bits)))*2^(min w.toNat IntKind.i64.bits)) λx=>bL (h+1) λy=>g y x u) (bE a 1 o λaa=>Ix aa.a aa.len h 1 λab=>LdM ab o λac=>MSet .i64 .b ac i true o λad=>e ad)) λae=>If (k<((m.len:Nat):Int)) (bE a 1 j λag=>Ix ag.a ag.len h 1 λah=>LdM ah j λai=>Nn h<|bL ((1:Int)*2^(min h.toNat IntKind.i64.bits)) λaj=>Lk .i64 .b ai (bits .xor .i64 i aj) j λak=>ae (ak.getD false) j) (ae false j)
theorem Zk.o {a b c d e}(f:Zk.v a b c d e):Zk.c a b c d e:=Wa Tryz.func286 (x:=Zk.h) (R0 f)
end Go.Proofs
namespace Go.Proofs
open Go.Vc
set_option maxRecDepth 100000
def Wc.h:Hn:=.q .o1 (.q (.q .o2 .aK) (.q .o4 .l))
def Wc.v (a:Sl)(b:Hp)(c:Sl->Hp->Prop):Prop:=If a.a.isNone (c ⟨none,0,0⟩ b) (aV #[] 31 b λd e=>App ⟨some d,0,0⟩ 3 24 31 [.I 0,.I 0,.I 0] a e λf g=>c f g)
theorem Wc.o {a b c}(d:Wc.v a b c):Wc.c a b c:=Wa Tryz.func68 (x:=Wc.h) (R0 d)
def Wl.h:Hn:=.q .o1 (.q (.q .o3 (.k (.loop [(8,.I)] (.q .o1 (.q (.c .l .l) (.q (.k (.q .o2 (.q .o6 .aJ))) .o2)))))) .aM)
def Wl.v (a:Sl)(b:Fv)(c:Hp)(d:aN):Prop:=W8 [bN] (λe=>e 0 c) λf (g:Int) h=>If (g<((a.len:Nat):Int)) (Ix a.a a.len g 3 λi=>aQ i 0 h λj=>aQ i 1 h λk=>aQ i 2 h λl=>VK Tryz.prog b [.agg #[.I j,.I k,.I l]] [.one .b] h λm n=>If m (d g n) (bL (g+1) λo=>f o n)) (d (-1) h)
theorem Wl.o {a b c d}(e:Wl.v a b c d):Wl.c a b c d:=Wa Tryz.func79 (x:=Wl.h) (R0 e)
def WF.h:Hn:=.q .o1 (.q (.q .o2 .aK) (.q .o4 .l))
def WF.v (a:Sl)(b:Hp)(c:Sl->Hp->Prop):Prop:=If a.a.isNone (c ⟨none,0,0⟩ b) (aV #[] 3 b λd e=>App ⟨some d,0,0⟩ 1 8 3 [.I 0] a e λf g=>c f g)
theorem WF.o {a b c}(d:WF.v a b c):WF.c a b c:=Wa Tryz.func90 (x:=WF.h) (R0 d)
def Wk.h:Hn:=.q .o1 (.q (.q .o3 (.k (.loop [(8,.I)] (.q .o1 (.q (.c .l .l) (.q (.k (.q .o2 (.q .o6 .aJ))) .o2)))))) .aM)
def Wk.v (a:Sl)(b:Fv)(c:Hp)(d:aN):Prop:=W8 [bN] (λe=>e 0 c) λf (g:Int) h=>If (g<((a.len:Nat):Int)) (Ix a.a a.len g 1 λi=>LdP i h λj=>VK Tryz.prog b [.pointer j] [.one .b] h λk l=>If k (d g l) (bL (g+1) λm=>f m l)) (d (-1) h)
theorem Wk.o {a b c d}(e:Wk.v a b c d):Wk.c a b c d:=Wa Tryz.func111 (x:=Wk.h) (R0 e)
def ZT.h:Hn:=.q .o1 (.q (.c .l .l) (.q .o3 .l))
def ZT.v (a:Int)(b:Hp)(c:aN):Prop:=ZH.c a b λd e=>c d e
theorem ZT.o {a b c}(d:ZT.v a b c):ZT.c a b c:=Wa Tryz.func129 (x:=ZT.h) (R0 d)
def XE.h:Hn:=.q .o1 (.q .o1 (.q (.q .o3 (.k (.loop [(3,.I),(11,.I)] (.q .o1 (.q (.c .l .l) (.q (.k (.q .o3 (.q .o5 (.q .o2 (.c .o2 .l))))) .o2)))))) (.q .o3 (.q (.q .o3 (.k (.loop [(6,.one .s),(27,.I)] (.q .o1 (.q (.c .l .l) (.q (.k (.q .o3 .o4)) .o2)))))) .aL))))
def XE.v (a:Sl)(b:Hp)(c:Sl->Hp->Prop):Prop:=W8 [bN,bN] (λd=>d 0 0 b) λe (f:Int) (g:Int) h=>If (g<((a.len:Nat):Int)) (Ix a.a a.len g 1 λi=>LdS i h λj=>bL (f+((j.len:Nat):Int)) λk=>If (k<0) (False) (bL (g+1) λl=>e k l h)) (XH.c ⟨none,0,0⟩ f h λm n=>W8 [.s,bN] (λo=>o m 0 n) λp (q:Sl) (r:Int) s=>If (r<((a.len:Nat):Int)) (Ix a.a a.len r 1 λt=>LdS t s λu=>App q 1 8 3 [.I 0] u s λv w=>bL (r+1) λx=>p v x w) (c q s))
theorem XE.o {a b c}(d:XE.v a b c):XE.c a b c:=Wa Tryz.func140 (x:=XE.h) (R0 d)
def Wj.h:Hn:=.q .o2 (.q .o5 .l)
def Wj.v (a:Sl)(b c:Bool)(d:Hp)(e:aO):Prop:=aV #[.bool b,.bool c] 160 d λf g=>aZ f 0 g λh=>aZ f 1 g λi=>Wn.c a h i g λj k=>e (decide (j≥0)) k
theorem Wj.o {a b c d e}(f:Wj.v a b c d e):Wj.c a b c d e:=Wa Tryz.func147 (x:=Wj.h) (R0 f)
def ZH.h:Hn:=.q .o1 (.sjn [(0,.one (.i .u64)),(2,.I)] (.q .o2 (.c (.q .o3 .o1) .l)) (.sjn [(0,.one (.i .u64)),(2,.I)] (.q .o2 (.c (.q .o3 .o3) .l)) (.sjn [(0,.one (.i .u64)),(2,.I)] (.q .o2 (.c (.q .o3 .o3) .l)) (.q .o7 .l))))
def ZH.v (a:Int)(b:Hp)(c:aN):Prop:=Jn [(.i .u64),bN] (λ(d:Int) (e:Int) f=>Jn [(.i .u64),bN] (λ(g:Int) (h:Int) i=>Jn [(.i .u64),bN] (λ(j:Int) (k:Int) l=>Ar .u8 j λm=>IxS (ByteArray.mk #[0,1,2,2,3,3,3,3,4,4,4,4,4,4,4,4,5,5,5,5,5,5,5,5,5,5,5,5,5,5,5,5,6,6,6,6,6,6,6,6,6,6,6,6,6,6,6,6,6,6,6,6,6,6,6,6,6,6,6,6,6,6,6,6,7,7,7,7,7,7,7,7,7,7,7,7,7,7,7,7,7,7,7,7,7,7,7,7,7,7,7,7,7,7,7,7,7,7,7,7,7,7,7,7,7,7,7,7,7,7,7,7,7,7,7,7,7,7,7,7,7,7,7,7,7,7,7,7,8,8,8,8,8,8,8,8,8,8,8,8,8,8,8,8,8,8,8,8,8,8,8,8,8,8,8,8,8,8,8,8,8,8,8,8,8,8,8,8,8,8,8,8,8,8,8,8,8,8,8,8,8,8,8,8,8,8,8,8,8,8,8,8,8,8,8,8,8,8,8,8,8,8,8,8,8,8,8,8,8,8,8,8,8,8,8,8,8,8,8,8,8,8,8,8,8,8,8,8,8,8,8,8,8,8,8,8,8,8,8,8,8,8,8,8,8,8,8,8,8,8,8,8,8,8,8,8]) m λn=>bL n λo=>bL (k+o) λp=>c p l) λq=>If (g≥256) (Nn (8:Int) <| bL (h+8) λr=>q (g.fdiv (2^(min (8:Int).toNat IntKind.u64.bits))) r i) (q g h i)) λs=>If (d≥65536) (Nn (16:Int) <| bL (e+16) λt=>s (d.fdiv (2^(min (16:Int).toNat IntKind.u64.bits))) t f) (s d e f)) λu=>If (a≥4294967296) (Nn (32:Int) <| u (a.fdiv (2^(min (32:Int).toNat IntKind.u64.bits))) 32 b) (u a 0 b)
theorem ZH.o {a b c}(d:ZH.v a b c):ZH.c a b c:=Wa Tryz.func168 (x:=ZH.h) (R0 d)
def Wp.h:Hn:=.q .o1 (.q (.q .o2 .aK) (.q .o4 .l))
def Wp.v (a:Sl)(b:Hp)(c:Sl->Hp->Prop):Prop:=If a.a.isNone (c ⟨none,0,0⟩ b) (aV #[] 130 b λd e=>App ⟨some d,0,0⟩ 2 32 130 [.I 0,.slice none 0 0] a e λf g=>c f g)
theorem Wp.o {a b c}(d:Wp.v a b c):Wp.c a b c:=Wa Tryz.func185 (x:=Wp.h) (R0 d)
def XH.h:Hn:=.q .o1 (.sjn [] (.q .o2 (.c .o2 .l)) (.q (.q .o8 (.q .o2 (.c .o10 .l))) .aL))
def XH.v (a:Sl)(b:Int)(c:Hp)(d:Sl->Hp->Prop):Prop:=Jn [] (λe=>bL (((a.cap:Nat):Int)-((a.len:Nat):Int)) λf=>bL (b-f) λg=>If (g>0) (SlcL a 1 0 ((a.cap:Nat):Int) (a.cap:Nat) λh=>AppZ h 1 8 3 [.I 0] g e λi j=>SlcL i 1 0 ((a.len:Nat):Int) (i.cap:Nat) λk=>d k j) (d a e)) λl=>If (b<0) (False) (l c)
theorem XH.o {a b c d}(e:XH.v a b c d):XH.c a b c d:=Wa Tryz.func201 (x:=XH.h) (R0 e)
def Wn.h:Hn:=.q .o2 (.q (.q .o3 (.k (.loop [(8,.I)] (.q .o1 (.q (.c .l .l) (.q (.k (.q .o2 (.q (.oq 6) .aJ))) .o2)))))) .aM)
def Wn.v (a:Sl)(b c:Bool)(d:Hp)(e:aN):Prop:=aV #[.bool b,.bool c] 160 d λf g=>W8 [bN] (λh=>h 0 g) λi (j:Int) k=>If (j<((a.len:Nat):Int)) (aZ f 0 k λl=>aZ f 1 k λm=>Ix a.a a.len j 2 λn=>aZ n 0 k λo=>aZ n 1 k λp=>If ((l==o)&&((m==p)&&true)) (e j k) (bL (j+1) λq=>i q k)) (e (-1) k)
theorem Wn.o {a b c d e}(f:Wn.v a b c d e):Wn.c a b c d e:=Wa Tryz.func203 (x:=Wn.h) (R0 f)
def W3.h:Hn:=.q .o5 (.k (.loop [(2,.I),(3,.I)] (.q (.q .o3 (.c .l .l)) (.q (.k (.reg (.held true [13,15] (.tk [0,1,2,3,4,5,6,7,8,9,10,11,12] (.all [(13,.take 14 (.all [(15,.done)]))]))))) .o6))))
def W3.v (a:Sl)(b:Hp)(c:aP):Prop:=bL (((a.len:Nat):Int)-1) λd=>W8 [bN,bN] (λe=>e 0 d b) λf (g:Int) (h:Int) i=>If (g<h) (Held i λj=>Ix a.a a.len h 1 λk=>LdH j bN k λ(l:Int)=>Ix a.a a.len g 1 λm=>LdH j bN m λ(n:Int)=>Ix a.a a.len g 1 λo=>St1 o (.I l) i λp=>Ix a.a a.len h 1 λq=>St1 q (.I n) p λr=>bL (g+1) λs=>bL (h-1) λt=>f s t r) (c i)
theorem W3.o {a b c}(d:W3.v a b c):W3.c a b c:=Wa Tryz.func217 (x:=W3.h) (R0 d)
def Wf.h:Hn:=.q .o1 (.q .o4 (.q (.q .o2 .aJ) (.q (.q .o3 (.k (.loop [(5,.I),(6,.I)] (.q (.q .o4 (.c .l .l)) (.q (.k (.q .o6 (.q .o4 (.c (.q .o5 .o3) .l)))) .o3))))) (.q .o4 (.q .o4 .l)))))
def Wf.v (a:Sl)(b:Fv)(c:Hp)(d:Sl->Hp->Prop):Prop:=Wi.c a b c λe f=>If (e==(-1)) (d a f) (bL (e+1) λg=>W8 [bN,bN] (λh=>h e g f) λi (j:Int) (k:Int) l=>If (k<((a.len:Nat):Int)) (Ix a.a a.len k 3 λm=>aQ m 0 l λn=>aQ m 1 l λo=>aY m 2 l λp=>aV #[.I 0,.I 0,.pointer none] 210 l λq r=>aR q 0 (.I n) r λs=>aR q 1 (.I o) s λt=>aR q 2 (.pointer p) t λu=>aQ q 0 u λv=>aQ q 1 u λw=>aY q 2 u λx=>VK Tryz.prog b [.agg #[.I v,.I w,.pointer x]] [.one .b] u λy z=>If (!y) (aQ q 0 z λaa=>aQ q 1 z λab=>aY q 2 z λac=>Ix a.a a.len j 3 λad=>aR ad 0 (.I aa) z λae=>aR ad 1 (.I ab) ae λaf=>aR ad 2 (.pointer ac) af λag=>bL (j+1) λah=>bL (k+1) λai=>i ah ai ag) (bL (k+1) λaj=>i j aj z)) (SlcL a 3 j (a.len:Nat) (a.cap:Nat) λak=>Clr ak [.I 0,.I 0,.pointer none] l λal=>SlcL a 3 0 j (a.cap:Nat) λam=>d am al))
theorem Wf.o {a b c d}(e:Wf.v a b c d):Wf.c a b c d:=Wa Tryz.func227 (x:=Wf.h) (R0 e)
def WL.h:Hn:=.q .o3 .o7
def WL.v (a:Sl)(b:Fv)(c:Hp)(d:aP):Prop:=Ar .u64 ((a.len:Nat):Int) λe=>ZT.c e c λf g=>WM.c a 0 ((a.len:Nat):Int) f b g λh=>d h
theorem WL.o {a b c d}(e:WL.v a b c d):WL.c a b c d:=Wa Tryz.func232 (x:=WL.h) (R0 e)
def Wb.h:Hn:=.q .o2 (.q .o3 (.q .o3 (.q (.k (.loop [(9,.I),(10,.I)] (.q (.q .o3 (.c .l .l)) (.k (.q .o7 (.q .o8 (.c .o3 .o2))))))) (.q (.reg (.seq [.op,.op,.op,.op,.op,.grd true 8 (RI.ops 8),.op,.op])) .l))))
def Wb.v (a:Sl)(b:Int)(c:Fv)(d:Hp)(e:Int->Bool->Hp->Prop):Prop:=W8 [bN,bN] (λf=>f 0 ((a.len:Nat):Int) d) λg (h:Int) (i:Int) j=>If (h<i) (bL (h+i) λk=>Ar .u64 k λl=>Nn (1:Int) <| bL (l.fdiv (2^(min (1:Int).toNat IntKind.u64.bits))) λm=>Ix a.a a.len m 3 λn=>aQ n 0 j λo=>aQ n 1 j λp=>aY n 2 j λq=>VK Tryz.prog c [.agg #[.I o,.I p,.pointer q],.I b] [.I] j λr s=>If (r<0) (bL (m+1) λt=>g t i s) (g h m s)) (JnB (λu v=>e h u v) λw=>If (h<((a.len:Nat):Int)) (Ix a.a a.len h 3 λx=>aQ x 0 j λy=>aQ x 1 j λz=>aY x 2 j λaa=>VK Tryz.prog c [.agg #[.I y,.I z,.pointer aa],.I b] [.I] j λab ac=>w (ab==0) ac) (w false j))
theorem Wb.o {a b c d e}(f:Wb.v a b c d e):Wb.c a b c d e:=Wa Tryz.func257 (x:=Wb.h) (R0 f)
def Wh.h:Hn:=.q .o1 (.q .o3 (.q .o3 (.q (.q .o2 .aJ) (.q .o3 (.q (.q .o3 (.c (.q .o4 .l) .l)) (.q (.q .o6 (.c (.q .o10 (.q .o5 (.q (.reg (.tail 8 (RI.ops 8) [.op])) .aL))) .l)) (.q .o6 (.q (.q .o8 (.c (.q (.reg (.tail 8 (RI.ops 8) [.op])) (.q .o5 .aL)) .l)) (.q .o5 (.q .o5 .aL))))))))))
def Wh.v (a:Sl)(b:Int)(c:Sl)(d:Hp)(e:Sl->Hp->Prop):Prop:=SlcL a 3 b (a.len:Nat) (a.cap:Nat) λf=>If (((c.len:Nat):Int)==0) (e a d) (If (b==((a.len:Nat):Int)) (App a 3 24 210 [.I 0,.I 0,.pointer none] c d λg h=>e g h) (bL (((a.len:Nat):Int)+((c.len:Nat):Int)) λi=>If (i>((a.cap:Nat):Int)) (SlcL a 3 0 b (a.cap:Nat) λj=>bL (((a.len:Nat):Int)+((c.len:Nat):Int)) λk=>bL (k-b) λl=>AppZ j 3 24 210 [.I 0,.I 0,.pointer none] l d λm n=>SlcL m 3 b (m.len:Nat) (m.cap:Nat) λo=>Cpy o 3 c n λp q=>bL (b+((c.len:Nat):Int)) λr=>SlcL m 3 r (m.len:Nat) (m.cap:Nat) λs=>SlcL a 3 b (a.len:Nat) (a.cap:Nat) λt=>Cpy s 3 t q λu v=>e m v) (bL (((a.len:Nat):Int)+((c.len:Nat):Int)) λw=>SlcL a 3 0 w (a.cap:Nat) λx=>bL (b+((c.len:Nat):Int)) λy=>SlcL x 3 y (x.len:Nat) (x.cap:Nat) λz=>ExtB Tryz.prog 282 [.slice c.a c.len c.cap,.slice z.a z.len z.cap] d λaa ab=>If (!aa) (bL (b+((c.len:Nat):Int)) λac=>SlcL x 3 ac (x.len:Nat) (x.cap:Nat) λad=>SlcL x 3 b (x.len:Nat) (x.cap:Nat) λae=>Cpy ad 3 ae ab λaf ag=>SlcL x 3 b (x.len:Nat) (x.cap:Nat) λah=>Cpy ah 3 c ag λai aj=>e x aj) (SlcL x 3 ((a.len:Nat):Int) (x.len:Nat) (x.cap:Nat) λak=>Cpy ak 3 c ab λal am=>SlcL x 3 b (x.len:Nat) (x.cap:Nat) λan=>Km.c an ((c.len:Nat):Int) am λao=>e x ao))))
theorem Wh.o {a b c d e}(f:Wh.v a b c d e):Wh.c a b c d e:=Wa Tryz.func259 (x:=Wh.h) (R0 f)
def Xk.h:Hn:=.q .o1 (.q .o7 .l)
def Xk.v (a:Sl)(b:Hp)(c:Sl->Hp->Prop):Prop:=SlcL a 1 0 ((a.len:Nat):Int) ((a.len:Nat):Int) λd=>c d b
theorem Xk.o {a b c}(d:Xk.v a b c):Xk.c a b c:=Wa Tryz.func260 (x:=Xk.h) (R0 d)
def Wi.h:Hn:=.q .o1 (.q (.q .o3 (.k (.loop [(8,.I)] (.q .o1 (.q (.c .l .l) (.q (.k (.q .o2 (.q .o6 .aJ))) .o2)))))) .aM)
def Wi.v (a:Sl)(b:Fv)(c:Hp)(d:aN):Prop:=W8 [bN] (λe=>e 0 c) λf (g:Int) h=>If (g<((a.len:Nat):Int)) (Ix a.a a.len g 3 λi=>aQ i 0 h λj=>aQ i 1 h λk=>aY i 2 h λl=>VK Tryz.prog b [.agg #[.I j,.I k,.pointer l]] [.one .b] h λm n=>If m (d g n) (bL (g+1) λo=>f o n)) (d (-1) h)
theorem Wi.o {a b c d}(e:Wi.v a b c d):Wi.c a b c d:=Wa Tryz.func266 (x:=Wi.h) (R0 e)
def Wx.h:Hn:=.q .o1 (.q .o5 .l)
def Wx.v (a:Sl)(b:Fv)(c:Hp)(d:aO):Prop:=WV.c a b c λe f=>d (decide (e≥0)) f
theorem Wx.o {a b c d}(e:Wx.v a b c d):Wx.c a b c d:=Wa Tryz.func268 (x:=Wx.h) (R0 e)
def Wo.h:Hn:=.q .o1 (.q .o5 .l)
def Wo.v (a:Sl)(b:Int)(c:Hp)(d:aO):Prop:=WG.c a b c λe f=>d (decide (e≥0)) f
theorem Wo.o {a b c d}(e:Wo.v a b c d):Wo.c a b c d:=Wa Tryz.func270 (x:=Wo.h) (R0 e)
def WO.h:Hn:=.q .o1 (.q (.q .o2 .aK) (.q .o4 .l))
def WO.v (a:Sl)(b:Hp)(c:Sl->Hp->Prop):Prop:=If a.a.isNone (c ⟨none,0,0⟩ b) (aV #[] 69 b λd e=>App ⟨some d,0,0⟩ 1 24 69 [.slice none 0 0] a e λf g=>c f g)
theorem WO.o {a b c}(d:WO.v a b c):WO.c a b c:=Wa Tryz.func274 (x:=WO.h) (R0 d)
def X3.h:Hn:=.q .o1 (.sjn [] (.q .o3 (.c .o2 .l)) (.q .o4 (.q (.q .o1 (.k (.loop [(3,.I),(4,.I)] (.q (.q .o4 (.c .l .l)) (.q (.k .o7) .o3))))) .aL)))
def X3.v (a:Sl)(b:Hp)(c:aN):Prop:=Jn [] (λd=>Ix a.a a.len 0 1 λe=>bM e d λf=>W8 [bN,bN] (λg=>g f 1 d) λh (i:Int) (j:Int) k=>If (j<((a.len:Nat):Int)) (Ix a.a a.len j 1 λl=>bM l k λm=>bL (j+1) λn=>h (if m<i then m else i) n k) (c i k)) λo=>If (((a.len:Nat):Int)<1) (False) (o b)
theorem X3.o {a b c}(d:X3.v a b c):X3.c a b c:=Wa Tryz.func278 (x:=X3.h) (R0 d)
def Wr.h:Hn:=.q .o3 (.k (.loop [(8,.I)] (.q (.q .o3 (.c .l .l)) (.q (.k (.q .o2 (.k (.loop [(9,.I)] (.q (.q (.reg (.heldJ true [14] [(34,.one .b)] (.tk [0,1,2,3] (.split 21 (.tk [4,5,6,7,8,9,10,11,12,13] (.all [(14,.take 15 (.take 16 (.done)))])) (.take 4 (.take 5 (.take 6 (.take 7 (.take 8 (.take 9 (.take 10 (.take 11 (.take 12 (.take 13 (.all [(14,.take 15 (.take 16 (.done)))]))))))))))))))) (.c .l .l)) (.q (.k (.reg (.held true [15,17] (.take 0 (.take 1 (.take 2 (.take 3 (.take 4 (.take 5 (.take 6 (.take 7 (.take 8 (.take 9 (.take 10 (.take 11 (.take 12 (.take 13 (.take 14 (.all [(15,.take 16 (.all [(17,.done)]))]))))))))))))))))))) .o3)))))) .o3))))
def Wr.v (a:Sl)(b c:Int)(d:Fv)(e:Hp)(f:aP):Prop:=bL (b+1) λg=>W8 [bN] (λh=>h g e) λi (j:Int) k=>If (j<c) (W8 [bN] (λl=>l j k) λm (n:Int) o=>Jn [.b] (λ(p:Bool) q=>If p (Held q λr=>bL (n-1) λs=>bL (n-1) λt=>Ix a.a a.len t 1 λu=>LdH r bN u λ(v:Int)=>Ix a.a a.len n 1 λw=>LdH r bN w λ(x:Int)=>Ix a.a a.len n 1 λy=>St1 y (.I v) q λz=>Ix a.a a.len s 1 λaa=>St1 aa (.I x) z λab=>bL (n-1) λac=>m ac ab) (bL (j+1) λad=>i ad q)) λae=>Held o λaf=>If (n>b) (Ix a.a a.len n 1 λag=>LdH af bN ag λ(ah:Int)=>bL (n-1) λai=>Ix a.a a.len ai 1 λaj=>LdH af bN aj λ(ak:Int)=>VK Tryz.prog d [.I ah,.I ak] [.I] o λal am=>ae (decide (al<0)) am) (ae false o)) (f k)
theorem Wr.o {a b c d e f}(g:Wr.v a b c d e f):Wr.c a b c d e f:=Wa Tryz.func287 (x:=Wr.h) (R0 g)
def WV.h:Hn:=.q .o1 (.q (.q .o3 (.k (.loop [(8,.I)] (.q .o1 (.q (.c .l .l) (.q (.k (.q .o2 (.q .o6 .aJ))) .o2)))))) .aM)
def WV.v (a:Sl)(b:Fv)(c:Hp)(d:aN):Prop:=W8 [bN] (λe=>e 0 c) λf (g:Int) h=>If (g<((a.len:Nat):Int)) (Ix a.a a.len g 1 λi=>bM i h λj=>VK Tryz.prog b [.I j] [.one .b] h λk l=>If k (d g l) (bL (g+1) λm=>f m l)) (d (-1) h)
theorem WV.o {a b c d}(e:WV.v a b c d):WV.c a b c d:=Wa Tryz.func295 (x:=WV.h) (R0 e)
def WG.h:Hn:=.q .o1 (.q (.q .o3 (.k (.loop [(8,.I)] (.q .o1 (.q (.c .l .l) (.q (.k (.q .o2 (.q .o6 .aJ))) .o2)))))) .aM)
def WG.v (a:Sl)(b:Int)(c:Hp)(d:aN):Prop:=W8 [bN] (λe=>e 0 c) λf (g:Int) h=>If (g<((a.len:Nat):Int)) (Ix a.a a.len g 1 λi=>bM i h λj=>If (b==j) (d g h) (bL (g+1) λk=>f k h)) (d (-1) h)
theorem WG.o {a b c d}(e:WG.v a b c d):WG.c a b c d:=Wa Tryz.func296 (x:=WG.h) (R0 e)
def Wg.h:Hn:=.q .o1 (.q .o5 .l)
def Wg.v (a:Sl)(b:Fv)(c:Hp)(d:aO):Prop:=Wm.c a b c λe f=>d (decide (e≥0)) f
theorem Wg.o {a b c d}(e:Wg.v a b c d):Wg.c a b c d:=Wa Tryz.func300 (x:=Wg.h) (R0 e)
def Wm.h:Hn:=.q .o1 (.q (.q .o3 (.k (.loop [(8,.I)] (.q .o1 (.q (.c .l .l) (.q (.k (.q .o2 (.q .o6 .aJ))) .o2)))))) .aM)
def Wm.v (a:Sl)(b:Fv)(c:Hp)(d:aN):Prop:=W8 [bN] (λe=>e 0 c) λf (g:Int) h=>If (g<((a.len:Nat):Int)) (Ix a.a a.len g 2 λi=>aZ i 0 h λj=>aZ i 1 h λk=>VK Tryz.prog b [.agg #[.bool j,.bool k]] [.one .b] h λl m=>If l (d g m) (bL (g+1) λn=>f n m)) (d (-1) h)
theorem Wm.o {a b c d}(e:Wm.v a b c d):Wm.c a b c d:=Wa Tryz.func314 (x:=Wm.h) (R0 e)
end Go.Proofs
namespace Go.Bu
open Go Go.Vc Go.Proofs
variable {σ:Hp}{p n sb:Nat}{S:Nat->Bool}{ms:List Nat}
theorem shl1 {k:Nat}{K:Int->Prop}(hk:k<=62)(hK:K ((2^k:Nat):Int)):Nn (k:Int) (Ar .i64 (1*2^(min (k:Int).toNat IntKind.i64.bits)) K):=by
 refine nn O ?_;rw[WcB hk];exact arN aA (Wdh hk) hK
theorem shlA {a k:Nat}{K:Int->Prop}(hk:k<=62)(ha:a*2^k<=4611686018427387904)(hK:K ((a*2^k:Nat):Int)):Ar .i64 ((a:Int)*2^(min (k:Int).toNat IntKind.i64.bits)) K:=by
 rw[WcB hk];exact arN aA ha hK
theorem shrl {x k j:Nat}{K:Int->Prop}(hj:j=k)(hk:k<=62)(hx:x<=4611686018427387904)(hK:K ((x/2^k*2^k:Nat):Int)) :
 Ar .i64 (((x:Int).fdiv (2^(min (k:Int).toNat IntKind.i64.bits)))*2^(min (j:Int).toNat IntKind.i64.bits)) K:=by
 subst hj;rw[WcB hk,WfE];refine arN aA ?_ hK;exact zI (zEZ _ _) hx
theorem BH.rN (h:BH σ p n S sb ms){K:Int->Prop}(hK:K (n:Int)):LdI .i64 (Addr.add ⟨p,0,none⟩ 0) σ K:=ldI0 h.ldN hK
theorem BH.rB (h:BH σ p n S sb ms){K:Sl->Prop}(hK:∀cap,K ⟨some ⟨sb,0,none⟩,ms.length,cap⟩):LdS (Addr.add ⟨p,0,none⟩ 1) σ K:=by
 obtain⟨cap,a⟩:=h.ldB;rw[add_lit];exact ldS a (hK cap)
theorem BH.rM (h:BH σ p n S sb ms){k m:Nat}(hm:ms[k]?=some m){K:Option Nat->Prop}(hK:K (some m)):Ix (some ⟨sb,0,none⟩) ms.length (k:Int) 1 λa=>LdM a σ K:=by
 refine ix O (by have:=(gSi.1 hm).1;omega) ?_;rw[add_lit];refine ldM ?_ hK;have:=h.ldR hm;simpa using this
theorem Wcg (h:BH σ p n S sb ms){R:aO}(hR:R true σ):XX.c (aW p) σ R:=by
 refine XX.o ?_;unfold XX.v;refine JnB.intro (ifT rfl (nilP (h.rN ?_)));have:=h.n1;rw[zW O];exact hR
def Zf (n:Nat)(start pages:Int):Bool:=decide (0<=start)&&(decide (1<=pages)&&decide (pages<=n-start))
theorem WfQ (h:BH σ p n S sb ms)(start pages:Int){R:aN}(h0:Zf n start pages=true->R 0 σ)(h1:Zf n start pages=false->R 1 σ):Yl.c (aW p) start pages σ R:=by
 refine Yl.o ?_;unfold Yl.v;have a:¬(0<=start/\1<=pages/\pages<=n-start)->R 1 σ:=λb=>h1 (by simp only[Zf,←zED];exact zd b);have n1:=h.n1;have n2:=h.n2;refine Wcg h (ifF rfl (JnB.intro ?_));refine ifD (λh1=>JnB.intro (ifT rfl (JnB.intro (ifT rfl (ifT rfl (a O)))))) λh1=>?_;refine JnB.intro (ifD (λd=>JnB.intro (ifT rfl (ifT rfl (a O)))) λd=>?_);refine nilP (h.rN ?_);refine JnB.intro (ifD (λg=>ifT rfl (a O)) λg=>?_);refine nilP (h.rN (ar O O ?_));refine ifD (λe=>a O) λe=>h0 ?_;simp only[Zf,zF,zT];omega
theorem WbQ (h:BH σ p n S sb ms)(x:Nat)(hx:x<=4611686018427387904){R:Int->Int->Bool->Hp->Prop}
 (h1:∀k q,can S k q=true->x/2^k=q->R (k:Int) ((q*2^k:Nat):Int) true σ) (h0:S x=false->R 0 0 false σ):Xy.c (aW p) (x:Int) σ R:=by
 refine Xy.o ?_;unfold Xy.v;refine nilP (h.rB λcap=>?_);refine ZS (a:=bN) (λt s=>∃k:Nat,t=(k:Int)/\k<=ms.length/\s=σ/\∀j,j<k->can S j (x/2^j)=false) (λt _=>ms.length-t.toNat) ⟨0,rfl,O,rfl,λj d=>O⟩ ?_;rintro t s ⟨k,rfl,y,rfl,b⟩;have w:=h.len;refine ifD (λg=>?_) (λr=>?_)
 ·simp only at g;obtain⟨m,u⟩:=h.get (k:=k) O;refine h.rM u (nn O (nn O (shrl rfl O hx (h.lk u rfl ?_))));cases hc:can S k (x/2^k)
  ·refine ifF aA (arN (m:=k+1) O O ?_);refine⟨⟨k+1,rfl,O,rfl,λj d=>?_⟩,O⟩;by_cases e:j=k
   ·rw[e];exact hc
   ·exact b j O
  ·exact ifT aA (h1 k _ hc rfl)
 ·simp only at r;refine h0 ?_;cases hs:S x
  ·rfl
  ·obtain⟨j,d⟩:=VS h.bnd hs;have:=h.fits (ZR h.bnd (ZM.1 d).1);rw[b j O]at d;cases d
def isF (S:Nat->Bool)(x:Int):Bool:=decide (0<=x)&&S x.toNat
theorem Wdo (h:BH σ p n S sb ms)(x:Int){R:aO}(hR:R (isF S x) σ):XU.c (aW p) x σ R:=by
 refine XU.o ?_;unfold XU.v;have n2:=h.n2;refine Wcg h (JnB.intro (ifF rfl ?_));refine JnB.intro (ifD (λd=>ifT rfl ?_) λd=>nilP (h.rN ?_))
 ·have:isF S x=false:=by simp[isF];intro;omega
  rw[this]at hR;exact hR
 ·refine ifD (λb=>?_) λb=>?_
  ·have:isF S x=false:=by
    simp only[isF];cases a:S x.toNat
    ·simp
    ·have:=h.bnd _ a;omega
   rw[this]at hR;exact hR
  ·obtain⟨y,rfl⟩:=zk (show 0<=x by omega);have e:isF S (y:Int)=S y:=by simp[isF]
   rw[e]at hR;refine WbQ h y O (λk q i g=>?_) λa=>?_
   ·rw[KW i g]at hR;exact hR
   ·rw[a]at hR;exact hR
theorem Wow {k q:Nat}(h:BH σ p n S sb ms)(hf:q*2^k+2^k<=n)(hd:∀x,x/2^k=q->S x=false){R:aP}
 (hR:∀σ',Ext (· ∈ ms) σ σ'->BH σ' p n (ins S k q) sb ms->R σ'):Zk.c (aW p) (k:Int) ((q*2^k:Nat):Int) σ R:=by
 refine Zk.o ?_;unfold Zk.v;refine Ko (a:=bN) (bb:=bN)
  (λo s C=>∃(j r:Nat) (T:Nat->Bool),o=(j:Int)/\s=((r*2^j:Nat):Int)/\r*2^j+2^j<=n/\BH C p n T sb ms/\Ext (· ∈ ms) σ C/\(∀x,x/2^j=r->T x=false)/\ins T j r=ins S k q)
  (λo _ _=>ms.length-o.toNat) ⟨k,q,S,rfl,rfl,hf,h,Ext.refl _ _,hd,rfl⟩ ?_
 rintro o s C ⟨j,r,T,rfl,rfl,z,d,P,A,w⟩;have Y:=d.len;have W:=d.fits z;have U:=d.n2;have V:=zAG j;obtain⟨m,B⟩:=d.get W;have y:¬full (ins T j r) (j+1) (r/2)=true->(NilP (some ⟨p,0,none⟩) λG=>LdS (G.add 1) C λD=>Ix D.a D.len (j:Int) 1 λH=>LdM H C λM=>MSet .i64 .b M ((r*2^j:Nat):Int) true C λv3=>R v3):=by
  intro g;refine nilP (d.rB λcap=>d.rM B ?_);refine d.msetR B A g z rfl λE e J=>hR E (P.trans e) ?_;rw[←w];exact J
 refine arN (m:=j+1) O O (nilP (d.rB λcap=>JnB.intro ?_));refine ifD (λK=>?_) (λL=>?_)
 ·simp only at K;refine nilP (d.rB λcap=>d.rM B (shl1 O ?_));have N:=Wdh (show j<=62 by omega);have F:bits .xor .i64 ((r*2^j:Nat):Int) ((2^j:Nat):Int)=((mate r*2^j:Nat):Int):=by
   rw[Wc9 O O,Wkt]
  rw[F];refine d.lk B rfl ?_;cases hc:can T j (mate r)
  ·refine ifF aA (y (Wnb A (by simp[hc])))
  ·refine ifT aA ?_;refine nilP (d.rB λcap=>d.rM B (shl1 O ?_));rw[F];refine d.mdelR B hc rfl λE e J=>?_;refine arN (m:=j+1) O O (nn O (arN (m:=j+1) O O (nn O ?_)));refine shrl rfl O O ?_;refine arN (m:=j+1) O O ⟨⟨j+1,r/2,del T j (mate r),rfl,?_,?_,J,P.trans e,?_,?_⟩,O⟩
   ·rw[zAV,←zDA,Ky]
   ·-- both halves lie within
    have u:=ZR d.bnd (ZM.1 hc).1;have Q:r/2*2^(j+1)=(r/2*2)*2^j:=by rw[zAV,Nat.mul_comm (2^j) 2,←zEL]
    rw[Q,zAV];have g:(r/2*2)+1=r\/(r/2*2)+1=mate r:=by unfold mate;split<;>omega
    have X:(r/2*2)*2^j+2^j*2=((r/2*2)+1)*2^j+2^j:=by rw[zj];omega
    rw[X];rcases g with e4|e4<;>rw[e4]<;>assumption
   ·intro x F;rcases Hv.1 F with u|u
    ·simp[del,A x u]
    ·simp[del,u]
   ·rw[←w];refine WaM λx=>?_;rw[VI,VI,VH,Hv];by_cases u:x/2^j=mate r
    ·simp[u,KW hc u]
    ·simp[u]
 ·simp only at L;refine ifF rfl (y λg=>?_);have:=ZR (WiK d.bnd z) g;have u:2^ms.length<=2^(j+1):=zBP aB O;have:=d.hi;omega
theorem WeA {a m:Nat}(h:BH σ p n S sb ms)(hf:a+m<=n)(hd:∀x,a<=x->x<a+m->S x=false){R:aP}
 (hR:∀σ',Ext (· ∈ ms) σ σ'->BH σ' p n (give S a (a+m)) sb ms->R σ'):Yq.c (aW p) (a:Int) (m:Int) σ R:=by
 refine Yq.o ?_;unfold Yq.v;have M:=h.n2;refine Ko (a:=bN) (bb:=bN)
  (λs c y=>∃(a' r:Nat),s=(a':Int)/\c=(r:Int)/\a<=a'/\a'+r=a+m/\BH y p n (give S a a') sb ms/\Ext (· ∈ ms) σ y)
  (λ_ c _=>c.toNat) ⟨a,m,rfl,rfl,O,rfl,by rw[WjT];exact h,Ext.refl _ _⟩ ?_
 rintro s c y ⟨a',r,rfl,rfl,B,L,G,F⟩;refine ifD (λE=>?_) (λV=>?_)
 ·refine ZS (a:=bN) (λk u=>∃j q:Nat,k=(j:Int)/\a'=q*2^j/\2^j<=r/\u=y) (λk _=>12-k.toNat) ⟨0,a',rfl,by simp,by simp;omega,rfl⟩ ?_;rintro k u ⟨j,q,rfl,Q,K,rfl⟩;have U:j<=10:=by
   apply Classical.byContradiction;intro hc;have:2^11<=2^j:=zBP aB O;omega
  refine arN (m:=j+1) O O (nn O (arN (m:=j+1) O O (nn O ?_)));refine shrl rfl O O (JnB.intro ?_);have g:(Zk.c (aW p) (j:Int) (a':Int) u λv3=>
   Nn (j:Int)<|Ar .i64 (1*2^(min (j:Int).toNat IntKind.i64.bits)) λA=>Ar .i64 ((a':Int)+A) λd=>
   Nn (j:Int)<|Ar .i64 (1*2^(min (j:Int).toNat IntKind.i64.bits)) λz=>Ar .i64 ((r:Int)-z) λb=>
   (∃(a'' m'':Nat),d=(a'':Int)/\b=(m'':Int)/\a<=a''/\a''+m''=a+m/\BH v3 p n (give S a a'') sb ms/\Ext (· ∈ ms) σ v3)/\b.toNat<(r:Int).toNat):=by
   subst Q;refine Wow G O (λx N=>?_) λv3 e w=>?_
   ·have:=Qc.1 N;have J:=hd x O O;simp only[give,J,zFI];rw[zd (show ¬x<q*2^j by omega),zCX]
   ·have D:=zAG j;refine shl1 O (arN (m:=q*2^j+2^j) O O (shl1 O (arN (m:=r-2^j) O O ?_)));refine⟨⟨_,_,rfl,rfl,O,O,?_,F.trans e⟩,O⟩;rw[WjO,Whm B O]at w;exact w
  refine iff_ (λH=>?_) (λH=>ifF rfl g);have C:a'/2^(j+1)*2^(j+1)=a':=by
   have:=zZ.1 H
   exact_mod_cast this
  refine arN (m:=j+1) O O (shl1 O ?_);refine ifD (λP=>?_) λ_=>g;refine arN (m:=j+1) O O ⟨⟨j+1,a'/2^(j+1),rfl,C.symm,O,rfl⟩,O⟩
 ·have:r=0:=by omega
  subst this;have:a'=a+m:=by omega
  subst this;exact hR y F G
theorem Wl0 {a m:Nat}(h:BH σ p n S sb ms)(hf:a+m<=n)(hd:∀x,a<=x->x<a+m->S x=true){R:aP}
 (hR:∀σ',Ext (· ∈ ms) σ σ'->BH σ' p n (take S a (a+m)) sb ms->R σ'):Zi.c (aW p) (a:Int) (m:Int) σ R:=by
 refine Zi.o ?_;unfold Zi.v;have U:=h.n2;refine ZS (a:=bN) (λs w=>∃x:Nat,s=(x:Int)/\a<=x/\BH w p n (take S a (min x (a+m))) sb ms/\Ext (· ∈ ms) σ w)
  (λs _=>a+m-s.toNat) ⟨a,rfl,O,by rw[zCD O,WkX];exact h,Ext.refl _ _⟩ ?_
 rintro s w ⟨x,rfl,G,d,K⟩;refine arN (m:=a+m) O O ?_;refine ifD (λY=>?_) (λZ=>?_)
 ·rw[zCD O]at d;have V:take S a x x=true:=Kj.2 ⟨hd x G O,O⟩;refine WbQ d x O (λk q D W=>?_) (λj=>by rw[V]at j;cases j);have H:=ZR d.bnd (ZM.1 D).1;have Q:=d.fits H;have hl:=d.len;obtain⟨mm,J⟩:=d.get Q;have P:=Qc.1 W;refine nilP (d.rB λcap=>d.rM J ?_);refine d.mdelR J D rfl λh1 N z=>?_;refine shl1 O (arN (m:=q*2^k+2^k) O O (arN (m:=x-q*2^k) O O ?_));refine WeA z O (λy B F=>?_) λh2 L e=>?_
  ·have:y/2^k=q:=Qc.2 O;simp[del,this]
  ·have u:=(K.trans N).trans L;rw[show q*2^k+(x-q*2^k)=x by omega]at e;have g:∀y,q*2^k<=y/\y<q*2^k+2^k->S y=true/\¬(a<=y/\y<x):=λy b=>Kj.1 (KW D (Qc.2 b));refine arN (m:=a+m) O O (ifD (λM=>?_) λX=>?_)
   ·refine arN (m:=q*2^k+2^k-(a+m)) O O ?_;refine WeA e O (λy B F=>?_) λh3 e3 r=>?_
    ·have:y/2^k=q:=Qc.2 O;have C:¬y<x:=by omega
     simp[give,del,this,C]
    ·refine⟨⟨_,rfl,O,?_,u.trans e3⟩,O⟩;rw[Nat.min_eq_right O];have:give (give (del (take S a x) k q) (q*2^k) x) (a+m) (a+m+(q*2^k+2^k-(a+m)))=take S a (a+m):=by
      refine WaM λy=>?_;have b:=g y;simp only[Kl,VH,Kj,Ne,Qc];generalize q*2^k=A at *;generalize 2^k=E at *;cases j:S y
      ·rw[j]at b;simp only[zb,false_and,false_or,iff_false,imp_false]at b ⊢;omega
      ·rw[j]at b;simp only[zDO]at b ⊢;omega
     rw[this]at r;exact r
   ·refine⟨⟨_,rfl,O,?_,u⟩,O⟩;rw[zCD O];have:give (del (take S a x) k q) (q*2^k) x=take S a (q*2^k+2^k):=by
     refine WaM λy=>?_;have b:=g y;simp only[Kl,VH,Kj,Ne,Qc];generalize q*2^k=A at *;generalize 2^k=E at *;cases j:S y
     ·rw[j]at b;simp only[zb,false_and,false_or,iff_false,imp_false]at b ⊢;omega
     ·rw[j]at b;simp only[zDO]at b ⊢;omega
    rw[this]at e;exact e
 ·rw[Nat.min_eq_right O]at d;exact hR w K d
def Wbn (S:Nat->Bool)(a m:Nat):Bool:=(List.range m).all λi=>!S (a+i)
def allF (S:Nat->Bool)(a m:Nat):Bool:=(List.range m).all λi=>S (a+i)
theorem Vj {S:Nat->Bool}{a m:Nat}:Wbn S a m=true↔∀x,a<=x->x<a+m->S x=false:=by
 simp only[Wbn,zAA,zU,zAW];exact⟨λh x b e=>by have:=h (x-a) O;rwa [show a+(x-a)=x by omega]at this,λh i d=>h _ O O⟩
theorem V1 {S:Nat->Bool}{a m:Nat}:allF S a m=true↔∀x,a<=x->x<a+m->S x=true:=by
 simp only[allF,zAA,zU];exact⟨λh x b e=>by have:=h (x-a) O;rwa [show a+(x-a)=x by omega]at this,λh i d=>h _ O O⟩
theorem WkG {S:Nat->Bool}{a m x:Nat}(h1:a<=x)(h2:x<a+m)(h:S x=true):Wbn S a m=false:=by
 cases e:Wbn S a m
 ·rfl
 ·rw[Vj.1 e x h1 h2]at h;cases h
theorem Wnh {S:Nat->Bool}{a m x:Nat}(h1:a<=x)(h2:x<a+m)(h:S x=false):allF S a m=false:=by
 cases e:allF S a m
 ·rfl
 ·rw[V1.1 e x h1 h2]at h;cases h
def Wkf (n:Nat)(S:Nat->Bool)(a m:Int):Int:=if Zf n a m then(if Wbn S a.toNat m.toNat then 0 else 9)else 1
def QL (n:Nat)(S:Nat->Bool)(a m:Int):Nat->Bool:=if Zf n a m&&Wbn S a.toNat m.toNat then give S a.toNat (a.toNat+m.toNat)else S
def runE (n:Nat)(S:Nat->Bool)(a m:Int):Int:=if Zf n a m then(if allF S a.toNat m.toNat then 0 else 4)else 1
def runS (n:Nat)(S:Nat->Bool)(a m:Int):Nat->Bool:=if Zf n a m&&allF S a.toNat m.toNat then take S a.toNat (a.toNat+m.toNat)else S
theorem Wda {n:Nat}{a m:Int}(h:Zf n a m=true):∃x y:Nat,a=(x:Int)/\m=(y:Int)/\1<=y/\x+y<=n:=by
 simp only[Zf,zF,zT]at h;exact⟨a.toNat,m.toNat,O,O,O,O⟩
theorem Give_ok (h:BH σ p n S sb ms)(a m:Int){R:aN}
 (hR:∀σ',Ext (· ∈ ms) σ σ'->BH σ' p n (QL n S a m) sb ms->R (Wkf n S a m) σ'):Yg.c (aW p) a m σ R:=by
 refine Yg.o ?_;unfold Yg.v;have C:=h.n2;refine WfQ h a m (λb=>ifF rfl ?_) (λb=>ifT rfl ?_)
 ·obtain⟨x,y,rfl,rfl,H,s⟩:=Wda b;refine ZS (a:=bN) (λt w=>∃z:Nat,t=(z:Int)/\x<=z/\w=σ/\∀u,x<=u->u<z->S u=false) (λt _=>x+y-t.toNat) ⟨x,rfl,O,rfl,λu _ _=>O⟩ ?_;rintro t w ⟨z,rfl,G,rfl,g⟩;refine arN (m:=x+y) O O ?_;refine ifD (λE=>Wdo h _ ?_) (λF=>?_)
  ·have e:isF S (z:Int)=S z:=by simp[isF]
   rw[e];cases hs:S z
   ·refine ifF rfl (arN (m:=z+1) O O ⟨⟨z+1,rfl,O,rfl,λu r A=>?_⟩,O⟩);by_cases e:u=z
    ·rw[e];exact hs
    ·exact g u r O
   ·refine ifT rfl ?_;have j:=WkG (m:=y) G O hs;have:=hR w (Ext.refl _ _);simp only[Wkf,QL,b,iTn,j,zCX,zS,zb,zt]at this;exact this h
  ·have d:∀u,x<=u->u<x+y->S u=false:=λu r A=>g u r O;have j:=Vj.2 d;refine WeA h s d λr D B=>?_;have:=hR r D;simp only[Wkf,QL,b,iTn,j,zDD,zS]at this;exact this B
 ·have:=hR σ (Ext.refl _ _);simp only[Wkf,QL,b,zDI,zb,zt]at this;exact this h
theorem TakeRun_ok (h:BH σ p n S sb ms)(a m:Int){R:aN}
 (hR:∀σ',Ext (· ∈ ms) σ σ'->BH σ' p n (runS n S a m) sb ms->R (runE n S a m) σ'):XA.c (aW p) a m σ R:=by
 refine XA.o ?_;unfold XA.v;have C:=h.n2;refine WfQ h a m (λb=>ifF rfl ?_) (λb=>ifT rfl ?_)
 ·obtain⟨x,y,rfl,rfl,H,s⟩:=Wda b;refine ZS (a:=bN) (λt w=>∃z:Nat,t=(z:Int)/\x<=z/\w=σ/\∀u,x<=u->u<z->S u=true) (λt _=>x+y-t.toNat) ⟨x,rfl,O,rfl,λu _ _=>O⟩ ?_;rintro t w ⟨z,rfl,G,rfl,g⟩;refine arN (m:=x+y) O O ?_;refine ifD (λE=>Wdo h _ ?_) (λF=>?_)
  ·have e:isF S (z:Int)=S z:=by simp[isF]
   rw[e];cases hs:S z
   ·refine ifT rfl ?_;have j:=Wnh (m:=y) G O hs;have:=hR w (Ext.refl _ _);simp only[runE,runS,b,iTn,j,zCX,zS,zb,zt]at this;exact this h
   ·refine ifF rfl (arN (m:=z+1) O O ⟨⟨z+1,rfl,O,rfl,λu r A=>?_⟩,O⟩);by_cases e:u=z
    ·rw[e];exact hs
    ·exact g u r O
  ·have d:∀u,x<=u->u<x+y->S u=true:=λu r A=>g u r O;have j:=V1.2 d;refine Wl0 h s d λr D B=>?_;have:=hR r D;simp only[runE,runS,b,iTn,j,zDD,zS]at this;exact this B
 ·have:=hR σ (Ext.refl _ _);simp only[runE,runS,b,zDI,zb,zt]at this;exact this h
theorem WmQ {n:Nat}{S:Nat->Bool}(hb:Bounded S n)(K:Nat):sums n S K<=n:=by
 rw[GD hb];exact zI zEE aA
theorem Free_ok (h:BH σ p n S sb ms){R:aN}(hR:R ((cnt n S:Nat):Int) σ):Zn.c (aW p) σ R:=by
 refine Zn.o ?_;unfold Zn.v;have j:=h.n2;have u:=h.len;refine Wcg h (ifF rfl (nilP (h.rB λcap=>?_)));refine Ko (a:=bN) (bb:=bN) (λc t g=>∃k:Nat,c=((sums n S k:Nat):Int)/\t=(k:Int)/\k<=ms.length/\g=σ) (λ_ t _=>ms.length-t.toNat) ⟨0,rfl,rfl,O,rfl⟩ ?_;rintro c t g ⟨k,rfl,rfl,s,rfl⟩;have r:=WmQ h.bnd (k+1);have w:sums n S (k+1)=sums n S k+many n S k*2^k:=rfl;refine ifD (λb=>?_) (λd=>?_)
 ·simp only at b;obtain⟨m,e⟩:=h.get (k:=k) O;refine h.rM e (h.mlen e (nn O (shlA O O ?_)));refine arN (m:=sums n S (k+1)) O O (arN (m:=k+1) O O ⟨⟨k+1,rfl,rfl,O,rfl⟩,O⟩)
 ·simp only at d;have:k=ms.length:=by omega
  subst this;rw[WkO h.bnd h.hi];exact hR
end Go.Bu
namespace Go.Ar
open Go.Bu
def War (n:Nat)(h:Int):Bool:=decide (0<=h)&&decide (h<((n/16:Nat):Int))
def addE (st:List Nat)(h:Int):Int:=if War st.length h then(if st.getD (16*h.toNat) 0=0 then 0 else 5)else 1
def addT (st:List Nat)(h:Int):List Nat:=if addE st h=0 then setR st (16*h.toNat) (16*h.toNat+16) 3 else st
def WgM (st:List Nat)(h:Nat):Bool:=st.getD (16*h) 0 != 0&&cntR st (16*h) (16*h+16) 1==0
def remE (st:List Nat)(h:Int):Int:=if War st.length h then(if WgM st h.toNat then 0 else 5)else 1
def remT (st:List Nat)(h:Int):List Nat:=if remE st h=0 then setR st (16*h.toNat) (16*h.toNat+16) 0 else st
def WgO (st:List Nat)(a m:Nat)(fr:List Nat):Bool:=((st.drop a).take m).all fr.contains
def GO (st:List Nat)(a m:Int)(fr:List Nat):Int:=if Zf st.length a m then(if WgO st a.toNat m.toNat fr then 0 else 5)else 1
def VO (st:List Nat)(a m:Int)(v:Nat)(fr:List Nat):List Nat:=if GO st a m fr=0 then setR st a.toNat (a.toNat+m.toNat) v else st
def KN (st:List Nat)(h:Nat):Nat:=if cntR st (16*h) (16*h+16) 1=0 then 0 else if 0<cntR st (16*h) (16*h+16) 3 then 1 else 2
def Ki (st:List Nat)(k:Nat):List Nat:=(List.range (st.length/16)).filter λh=>st.getD (16*h) 0 != 0&&KN st h==k
def used (st:List Nat)(h:Nat):Nat:=cntR st (16*h) (16*h+16) 1
def bef (st:List Nat)(g h:Nat):Bool:=
 decide (KN st g<KN st h)||(KN st g==KN st h&&(decide (used st g<used st h)||(used st g==used st h&&decide (h<g))))
def insH (st:List Nat)(l:List Nat)(h:Nat):List Nat:=l.takeWhile (λg=>bef st g h)++h::l.dropWhile (λg=>bef st g h)
def ordT (st:List Nat):List Nat:=((List.range (st.length/16)).filter λh=>0<cntR st (16*h) (16*h+16) 2).foldl (insH st) []
def runL (st:List Nat)(p m:Nat):Nat:=(((st.drop p).take m).takeWhile (· == 2)).length
def QX (st:List Nat)(e:Nat):Nat->Nat->List (Nat×Nat)
 | 0,_=>[]
 | f+1,p=>if e<=p then[]else if runL st p (e-p)=0 then QX st e f (p+1)else(p,runL st p (e-p))::QX st e f (p+runL st p (e-p)+1)
def KK (st:List Nat)(h:Nat):List (Nat×Nat):=QX st (16*h+16) 17 (16*h)
def cutW (want:Int):Nat->List (Nat×Nat)->List (Nat×Nat)
 | _,[]=>[]
 | p,r::rs=>if want<=(p:Int)then[]else r::cutW want (p+r.2) rs
def HA (st:List Nat)(want:Int):List (Nat×Nat):=cutW want 0 ((ordT st).flatMap (KK st))
structure Sp where
 st:List Nat
 wd:Nat->Int
 pk:Nat
def Sp.set (s:Sp)(a m v:Nat):Sp:={s with st:=setR s.st a (a+m) v,wd:=λw=>if a*32<=w/\w<(a+m)*32 then 0 else s.wd w}
def WkE (st:List Nat)(a m v:Nat):Bool:=((st.drop a).take m).contains v
def mapE (s:Sp)(a m:Int):Int:=if Zf s.st.length a m then(if((s.st.drop a.toNat).take m.toNat).any (· != 0)then 5 else 0)else 1
def mapS (s:Sp)(a m:Int):Sp:=if mapE s a m=0 then s.set a.toNat m.toNat 1 else s
def leaveE (s:Sp)(a m:Int):Int:=if Zf s.st.length a m then(if WkE s.st a.toNat m.toNat 0 then 7 else 0)else 1
def leaveS (s:Sp)(a m:Int)(v:Nat):Sp:=if leaveE s a m=0 then s.set a.toNat m.toNat v else s
def accE (s:Sp)(x:Int):Int:=if x<0\/x%8≠0 then 7 else if s.st.getD (x.toNat/256) 0=0 then 7 else 0
def putW (s:Sp)(w:Nat)(v:Int):Sp:=
 {st:=s.st.set (w/32) 2,wd:=λu=>if u=w then v else s.wd u,pk:=if s.st.getD (w/32) 0=2 then s.pk else max s.pk ((s.st.set (w/32) 2).count 2)}
def US (s:Sp)(x v:Int):Sp:=if accE s x=0 then putW s (x.toNat/8) v else s
end Go.Ar
namespace Go.Ar
structure Li where
 os:List Int
 lim:Nat
 low:Nat
 deriving DecidableEq
def liN:Li:=⟨[],1,0⟩
structure LiOk (l:Li):Prop where
 low:l.low<=l.os.length
 many:l.os.length<=256
 lim:l.lim<=128
 lim1:1<=l.lim
def oldL (m:Nat)(l:Li):List Int×Li:=(l.os.take m,{l with os:=l.os.drop m,low:=min l.low (l.os.length-m)})
def upL (c:Cls)(l:Li):Li:=if l.lim<c.batch then{l with lim:=l.lim+1}else l
def Ka (c:Cls)(l:Li):Option Int×Li:=match l.os.getLast? with
 | none=>(none,if l.lim<c.batch then{l with lim:=l.lim+1}else{l with lim:=min (l.lim+c.batch) 128})
 | some x=>(some x,{l with os:=l.os.dropLast,low:=min l.low (l.os.length-1)})
def Wav (c:Cls)(l:Li):Nat:=min l.lim c.batch
def addL (xs:List Int)(l:Li):Li:=if l.os.length+xs.length>256 then l else{l with os:=l.os++xs}
def putL (c:Cls)(x:Int)(l:Li):List Int×Li:=
 if l.os.length+1>256 then([],l)
 else if l.os.length+1<=l.lim then([],addL [x] l)
 else oldL (min c.batch (l.os.length+1)) (upL c (addL [x] l))
def KJ (c:Cls)(l:Li):List Int×Li:=
 ((oldL ((l.low+1)/2) l).1,{os:=(oldL ((l.low+1)/2) l).2.os,lim:=if l.lim>c.batch then max (l.lim-c.batch) c.batch else l.lim,low:=(oldL ((l.low+1)/2) l).2.os.length})
def ZX (_:Cls)(l:Li):List Int×Li:=oldL l.os.length l
abbrev Bt:=Nat×List Int
def Kb (f:Cls->Li->List Int×Li)(tb:List Cls)(ls:List Li):List Bt:=(List.range tb.length).filterMap λk=>match tb[k]?,ls[k]? with
 | some c,some l=>if(f c l).1=[]then none else some (k,(f c l).1)
 | _,_=>none
def Q8 (f:Cls->Li->List Int×Li)(tb:List Cls)(ls:List Li):List Li:=List.zipWith (λc l=>(f c l).2) tb ls
def Qt (tb:List Cls)(ls:List Li):Nat:=((tb.zip ls).map λx=>x.1.size*x.2.os.length).sum
theorem LiOk.nil:LiOk liN:=⟨zD _,by decide,by decide,by decide⟩
theorem Wb4 {m:Nat}{l:Li}(h:LiOk l):LiOk (oldL m l).2:=by
 have a:=h.low;have b:=h.many;refine⟨?_,?_,h.lim,h.lim1⟩
 ·simp only[oldL,zq];omega
 ·simp only[oldL,zq];omega
theorem WfF {c:Cls}{l:Li}(hc:c.ok)(h:LiOk l):LiOk (Ka c l).2:=by
 have a:=h.low;have b:=h.many;have d:=h.lim;have e:=h.lim1;unfold Cls.ok at hc;unfold Ka;split
 ·split
  ·exact⟨a,b,by simp only;omega,by simp only;omega⟩
  ·exact⟨a,b,by simp only;omega,by simp only;omega⟩
 ·exact⟨by simp only[zGH];omega,by simp only[zGH];omega,d,e⟩
theorem Wb9 {xs:List Int}{l:Li}(h:LiOk l):LiOk (addL xs l):=by
 have a:=h.low;have b:=h.many;unfold addL;split
 ·exact h
 ·exact⟨by simp only[zK];omega,by simp only[zK];omega,h.lim,h.lim1⟩
theorem WlU {c:Cls}{l:Li}(hc:c.ok)(h:LiOk l):LiOk (upL c l):=by
 have a:=h.lim;unfold Cls.ok at hc;unfold upL;split
 ·exact⟨h.low,h.many,by simp only;omega,by simp only;omega⟩
 ·exact h
theorem Wns {c:Cls}{x:Int}{l:Li}(hc:c.ok)(h:LiOk l):LiOk (putL c x l).2:=by
 unfold putL;split
 ·exact h
 ·split
  ·exact Wb9 h
  ·exact Wb4 (WlU hc (Wb9 h))
theorem Wfb {c:Cls}{l:Li}(hc:c.ok)(h:LiOk l):LiOk (KJ c l).2:=by
 have a:=(Wb4 (m:=(l.low+1)/2) h).many;have d:=h.lim;have b:=h.lim1;unfold Cls.ok at hc;refine⟨zD _,a,?_,?_⟩<;>simp only[KJ]<;>split<;>omega
theorem Wjf {c:Cls}{l:Li}(h:LiOk l):LiOk (ZX c l).2:=Wb4 h
theorem Who (c:Cls)(hc:c.ok):KJ c liN=([],liN):=by
 unfold Cls.ok at hc;simp[KJ,liN,oldL];omega
theorem Wg2 (c:Cls):ZX c liN=([],liN):=by simp[ZX,liN,oldL]
def TrA.rem (t:TrA):TrA:={low:=min t.low (t.bs.length-1),bs:=t.bs.dropLast}
def TrA.tick (t:TrA):TrA:={low:=(t.bs.drop ((t.low+1)/2)).length,bs:=t.bs.drop ((t.low+1)/2)}
def TrA.out (t:TrA):List (List Int):=t.bs.take ((t.low+1)/2)
end Go.Ar
namespace Go.Proofs
open Go.Vc
set_option maxRecDepth 100000
def Zm.h:Hn:=.q .o1 (.q (.q (.reg (.seq [.op,.op,.op,.op,.grd false 2 [.op,.op],.op,.grd false 2 [.op,.op]])) .aK) (.q .o9 (.q (.q (.reg (.seq [.op,.op,.op,.grd false 8 (RI.ops 8)])) .aK) (.q (.o 13) .l))))
def Zm.v (a:R2)(b:Int)(c:Hp)(d:aN):Prop:=XQ.c a c λe f=>JnB (λg h=>JnB (λi j=>If i (d 0 j) (Nz 8<|bL (b.tdiv 8) λk=>Nz 8<|bL (k.tdiv 8) λl=>NilP a λm=>IxA (m.add 1) 16 l 1 λn=>LdP n j λo=>JnB (λp q=>If p (d 0 q) (Nz 8<|bL (b.tdiv 8) λr=>Nz 8 <| NilP o λs=>IxA s 8 (r.tmod 8) 1 λt=>LdP t q λu=>Nz 8 <| NilP u λv=>IxA v 8 (b.tmod 8) 1 λw=>bM w q λx=>d x q)) λy=>If o.isNone (y true j) (Nz 8<|bL (b.tdiv 8) λz=>Nz 8 <| NilP o λaa=>IxA aa 8 (z.tmod 8) 1 λab=>LdP ab j λac=>y ac.isNone j))) λad=>If g (ad true h) (ad (decide (b≥1024)) h)) λae=>If (!e) (ae true f) (ae (decide (b<0)) f)
theorem Zm.o {a b c d}(e:Zm.v a b c d):Zm.c a b c d:=Wa Tryz.func114 (x:=Zm.h) (R0 e)
def XQ.h:Hn:=.q .o1 (.q (.reg (.seq [.op,.op,.op,.grd true 4 (RI.ops 4),.op])) .l)
def XQ.v (a:R2)(b:Hp)(c:aO):Prop:=JnB (λd e=>c d e) λf=>If (!a.isNone) (bG a 0 b λh=>f h b) (f false b)
theorem XQ.o {a b c}(d:XQ.v a b c):XQ.c a b c:=Wa Tryz.func144 (x:=XQ.h) (R0 d)
def Qd.h:Hn:=.q .o1 (.q .o3 .l)
def Qd.v (a:Hp)(b:Option Addr->Hp->Prop):Prop:=aV #[.bool true,.pointer none,.pointer none,.pointer none,.pointer none,.pointer none,.pointer none,.pointer none,.pointer none,.pointer none,.pointer none,.pointer none,.pointer none,.pointer none,.pointer none,.pointer none,.pointer none] 223 a λc d=>b (some c) d
theorem Qd.o {a b}(c:Qd.v a b):Qd.c a b:=Wa Tryz.func150 (x:=Qd.h) (R0 c)
def YY.h:Hn:=.q .o1 (.q (.k (.q .o4 (.c .aM (.q (.reg (.seq [.op,.op,.op,.grd false 2 [.op,.op],.op,.grd false 2 [.op,.op],.op,.grd false 4 (RI.ops 4),.op])) .aK)))) (.q (.q .o2 (.k (.loop [(9,.I)] (.q (.q .o5 (.c .l .l)) (.q (.k .o4) .o3))))) .aM))
def YY.v (a:R2)(b c d:Int)(e:Hp)(f:aN):Prop:=XQ.c a e λg h=>If (!g) (f 5 h) (JnB (λi j=>JnB (λk l=>JnB (λm n=>If m (f 1 n) (W8 [bN] (λo=>o b n) λp (q:Int) r=>bL (b+c) λs=>If (q<s) (Zs.c a q d r λt=>bL (q+1) λu=>p u t) (f 0 r))) λv=>If k (v true l) (bL (1024-b) λw=>v (decide (c>w)) l)) λx=>If i (x true j) (x (decide (b>1024)) j)) λy=>If (b<0) (y true h) (y (decide (c<1)) h))
theorem YY.o {a b c d e f}(g:YY.v a b c d e f):YY.c a b c d e f:=Wa Tryz.func152 (x:=YY.h) (R0 g)
def Zs.h:Hn:=.q .o9 (.q .o8 (.q .o7 (.sjn [] (.q .o5 (.c .o7 .l)) (.q .o5 (.c .o8 .l)))))
def Zs.v (a:R2)(b c:Int)(d:Hp)(e:aP):Prop:=Nz 8<|bL (b.tdiv 8) λf=>Nz 8<|bL (f.tdiv 8) λg=>NilP a λh=>IxA (h.add 1) 16 g 1 λi=>Ww.c (some i) d λj k=>Nz 8<|bL (b.tdiv 8) λl=>Nz 8 <| NilP j λm=>IxA m 8 (l.tmod 8) 1 λn=>Wy.c (some n) k λo p=>Nz 8 <| NilP o λq=>IxA q 8 (b.tmod 8) 1 λr=>St1 r (.I c) p λs=>Jn [] (λt=>NilP j λu=>aY u 0 t λv=>aY u 1 t λw=>aY u 2 t λx=>aY u 3 t λy=>aY u 4 t λz=>aY u 5 t λaa=>aY u 6 t λab=>aY u 7 t λac=>If (v.isNone&&(w.isNone&&(x.isNone&&(y.isNone&&(z.isNone&&(aa.isNone&&(ab.isNone&&(ac.isNone&&true)))))))) (Nz 8<|bL (b.tdiv 8) λad=>Nz 8<|bL (ad.tdiv 8) λae=>NilP a λaf=>IxA (af.add 1) 16 ae 1 λag=>St1 ag (.pointer none) t λah=>e ah) (e t)) λai=>NilP o λaj=>aQ aj 0 s λak=>aQ aj 1 s λal=>aQ aj 2 s λam=>aQ aj 3 s λan=>aQ aj 4 s λao=>aQ aj 5 s λap=>aQ aj 6 s λaq=>aQ aj 7 s λar=>If ((ak==0)&&((al==0)&&((am==0)&&((an==0)&&((ao==0)&&((ap==0)&&((aq==0)&&((ar==0)&&true)))))))) (Nz 8<|bL (b.tdiv 8) λau=>Nz 8 <| NilP j λav=>IxA av 8 (au.tmod 8) 1 λaw=>St1 aw (.pointer none) s λax=>ai ax) (ai s)
theorem Zs.o {a b c d e}(f:Zs.v a b c d e):Zs.c a b c d e:=Wa Tryz.func204 (x:=Zs.h) (R0 f)
def XT.h:Hn:=.q .o1 (.q .o5 .l)
def XT.v (a:R2)(b c:Int)(d:Hp)(e:aN):Prop:=YY.c a b c 0 d λf g=>e f g
theorem XT.o {a b c d e}(f:XT.v a b c d e):XT.c a b c d e:=Wa Tryz.func224 (x:=XT.h) (R0 f)
def Ww.h:Hn:=.q .o1 (.sjn [] (.q .o4 (.c .o4 .l)) (.q .o4 .l))
def Ww.v (a:R2)(b:Hp)(c:Option Addr->Hp->Prop):Prop:=Jn [] (λd=>NilP a λe=>LdP e d λf=>c f d) λg=>NilP a λh=>LdP h b λi=>If i.isNone (aV #[.pointer none,.pointer none,.pointer none,.pointer none,.pointer none,.pointer none,.pointer none,.pointer none] 329 b λj k=>NilP a λl=>St1 l (.pointer (some j)) k λm=>g m) (g b)
theorem Ww.o {a b c}(d:Ww.v a b c):Ww.c a b c:=Wa Tryz.func247 (x:=Ww.h) (R0 d)
def Wy.h:Hn:=.q .o1 (.sjn [] (.q .o4 (.c .o4 .l)) (.q .o4 .l))
def Wy.v (a:R2)(b:Hp)(c:Option Addr->Hp->Prop):Prop:=Jn [] (λd=>NilP a λe=>LdP e d λf=>c f d) λg=>NilP a λh=>LdP h b λi=>If i.isNone (aV #[.I 0,.I 0,.I 0,.I 0,.I 0,.I 0,.I 0,.I 0] 333 b λj k=>NilP a λl=>St1 l (.pointer (some j)) k λm=>g m) (g b)
theorem Wy.o {a b c}(d:Wy.v a b c):Wy.c a b c:=Wa Tryz.func248 (x:=Wy.h) (R0 d)
def Ys.h:Hn:=.q .o1 (.q (.q (.reg (.seq [.op,.op,.op,.grd true 6 [.op,.op,.op,.grd false 2 [.op,.op]]])) .aK) (.q .o6 .l))
def Ys.v (a:R2)(b c d:Int)(e:Hp)(f:aN):Prop:=XQ.c a e λg h=>JnB (λi j=>If i (f 1 j) (YY.c a b c d j λk l=>f k l)) λm=>If g (JnB (λn o=>m n o) λp=>If (d<1) (p true h) (p (decide (d>1073741824)) h)) (m false h)
theorem Ys.o {a b c d e f}(g:Ys.v a b c d e f):Ys.c a b c d e f:=Wa Tryz.func255 (x:=Ys.h) (R0 g)
end Go.Proofs
namespace Go.Ar
open Go Go.Vc Go.Proofs
open Go.Bu (Zf)
variable {σ:Hp}{F:Rg}{p:Nat}{M Lf:Nat->Option Nat}{ow:Nat->Nat}
def upd {α:Type}(f:Nat->α)(k:Nat)(v:α):Nat->α:=λi=>if i=k then v else f i
theorem ZN {α:Type}(f:Nat->α)(k:Nat)(v:α):upd f k v k=v:=by simp[upd]
theorem Qr {α:Type}(f:Nat->α){k i:Nat}(v:α)(h:i≠k):upd f k v i=f i:=by simp[upd,h]
theorem Ke {α:Type}(f:Nat->α)(n k:Nat)(v:α):((List.range n).map f).set k v=(List.range n).map (upd f k v):=by
 apply zu;intro i;by_cases hik:i=k
 ·subst hik;rcases zAN i n with h|h
  ·rw[zL (by simpa using h)];simp[zBN h,upd]
  ·rw[zY (by simpa using h),zY (by simpa using h)]
 ·rw[zi (Ne.symm hik)];simp only[zf];rcases zAN i n with h|h
  ·simp[zBN h,upd,hik]
  ·simp[zY (show(List.range n).length<=i by simpa using h)]
theorem Kf {α:Type}(f:Nat->α){n k:Nat}(h:k<n):((List.range n).map f)[k]?=some (f k):=by simp[zBN h]
def ptr (o:Option Nat):Value:=.pointer (o.map λq=>⟨q,0,none⟩)
structure PmS (σ:Hp) (F:Rg) (p:Nat) (M Lf:Nat->Option Nat) (ow:Nat->Nat):Prop where
 hd:Blk σ p (.bool true::(List.range 16).map λi=>ptr (M i))
 mid:∀i q,i<16->M i=some q->Blk σ q ((List.range 8).map λj=>ptr (Lf (8*i+j)))
 midN:∀i,i<16->M i=none->∀j,j<8->Lf (8*i+j)=none
 leaf:∀k q,k<128->Lf k=some q->Blk σ q ((List.range 8).map λj=>.int .i64 ((ow (8*k+j):Nat):Int))
 leafN:∀k,k<128->Lf k=none->∀j,j<8->ow (8*k+j)=0
 fp:F p
 fm:∀i q,i<16->M i=some q->F q/\q≠p
 fl:∀k q,k<128->Lf k=some q->F q/\q≠p
 mm:∀i j q,i<16->j<16->M i=some q->M j=some q->i=j
 ll:∀i j q,i<128->j<128->Lf i=some q->Lf j=some q->i=j
 ml:∀i k q,i<16->k<128->M i=some q->Lf k≠some q
def PmH (σ:Hp)(F:Rg)(p:Nat)(ow:Nat->Nat):Prop:=∃M Lf,PmS σ F p M Lf ow
theorem PmS.move {σ':Hp}{G:Rg}(h:PmS σ F p M Lf ow)(hb:∀b,b<σ.size->F b->σ'[b]?=σ[b]?)(hg:∀b,b<σ.size->F b->G b):PmS σ' G p M Lf ow:=by
 have j:∀{b:Nat} {cs:List Value},Blk σ b cs->F b->Blk σ' b cs:=by
  rintro b cs ⟨e,m⟩ r;exact⟨e,(hb b (Blk.lt ⟨e,m⟩) r).trans m⟩
 exact⟨j h.hd h.fp,λi q d a=>j (h.mid i q d a) (h.fm i q d a).1,h.midN,λk q g a=>j (h.leaf k q g a) (h.fl k q g a).1,h.leafN,hg p h.hd.lt h.fp,
  λi q d a=>⟨hg q (h.mid i q d a).lt (h.fm i q d a).1,(h.fm i q d a).2⟩,λk q g a=>⟨hg q (h.leaf k q g a).lt (h.fl k q g a).1,(h.fl k q g a).2⟩,h.mm,h.ll,h.ml⟩
theorem PmH.loc:Lcl λσ F=>PmH σ F p ow:=λσ g F G ⟨M,Lf,h⟩ i e=>⟨M,Lf,h.move (λb d a=>(e b d a).2) λb d a=>(e b d a).1⟩
theorem PmH.congr {ow':Nat->Nat}(h:PmH σ F p ow)(he:∀x,x<1024->ow x=ow' x):PmH σ F p ow':=by
 obtain⟨M,Lf,h⟩:=h;refine⟨M,Lf,h.hd,h.mid,h.midN,λk q b a=>?_,λk b a j d=>?_,h.fp,h.fm,h.fl,h.mm,h.ll,h.ml⟩
 ·have:=h.leaf k q b a;have e:((List.range 8).map λj=>Value.int .i64 ((ow (8*k+j):Nat):Int))=(List.range 8).map λj=>Value.int .i64 ((ow' (8*k+j):Nat):Int):=by
   apply zAH;intro j d;rw[zU]at d;rw[he _ O]
  rw[←e];exact this
 ·rw[←he _ O];exact h.leafN k b a j d
theorem WeC (h:PmH σ F p ow){R:aO}(hR:R true σ):XQ.c (aW p) σ R:=by
 refine XQ.o ?_;unfold XQ.v;obtain⟨M,Lf,h⟩:=h;exact JnB.intro (ifT rfl (nilP (h.hd.rB rfl hR)))
theorem ixA {a:Addr}{n i sz:Nat}{K:Addr->Prop}(hi:i<n)(hK:K (a.add (i*sz))):IxA a n (i:Int) sz K:=⟨O,O,by simpa using hK⟩
theorem PmS.rM (h:PmS σ F p M Lf ow){i:Nat}(hi:i<16){K:Option Addr->Prop}(hK:K ((M i).map λq=>⟨q,0,none⟩)):LdP ⟨p,1+i,none⟩ σ K:=by
 refine h.hd.rP0 ?_ hK;rw[Nat.add_comm,zGI,Kf _ hi];rfl
theorem PmS.rL (h:PmS σ F p M Lf ow){i j q:Nat}(hi:i<16)(hq:M i=some q)(hj:j<8){K:Option Addr->Prop}(hK:K ((Lf (8*i+j)).map λq=>⟨q,0,none⟩)):LdP ⟨q,j,none⟩ σ K:=
 (h.mid i q hi hq).rP0 (Kf _ hj) hK
theorem PmS.rN (h:PmS σ F p M Lf ow){k j q:Nat}(hk:k<128)(hq:Lf k=some q)(hj:j<8){K:Int->Prop}(hK:K ((ow (8*k+j):Nat):Int)):LdI .i64 ⟨q,j,none⟩ σ K:=
 (h.leaf k q hk hq).rI0 (Kf _ hj) hK
def owI (ow:Nat->Nat)(x:Int):Nat:=if 0<=x/\x<1024 then ow x.toNat else 0
theorem Wob (h:PmH σ F p ow)(x:Int){R:aN}(hR:R ((owI ow x:Nat):Int) σ):Zm.c (aW p) x σ R:=by
 refine Zm.o ?_;unfold Zm.v;have u:=h;obtain⟨M,Lf,h⟩:=h;refine WeC u (JnB.intro (ifF rfl (JnB.intro (ifD (λz=>ifT rfl ?_) λz=>?_))))
 ·have:owI ow x=0:=by unfold owI;rw[zA O]
  rw[this]at hR;exact hR
 refine ifD (λw=>?_) λj=>?_
 ·have:owI ow x=0:=by unfold owI;rw[zA O]
  rw[this]at hR;exact hR
 obtain⟨y,rfl⟩:=zk (show 0<=x by omega);have A:y<1024:=by omega
 have m:owI ow (y:Int)=ow y:=by unfold owI;rw[zB O];rfl
 rw[m]at hR;have b:((y:Int).tdiv 8)=((y/8:Nat):Int):=by rw[YM O];simp
 have s:(((y/8:Nat):Int).tdiv 8)=((y/8/8:Nat):Int):=by rw[YM O];simp
 have g:(((y/8:Nat):Int).tmod 8)=((y/8%8:Nat):Int):=by rw[Q7 O];simp
 have i:((y:Int).tmod 8)=((y%8:Nat):Int):=by rw[Q7 O];simp
 have d:8*(y/8/8)+y/8%8=y/8:=by omega
 have a:8*(y/8)+y%8=y:=by omega
 refine nz aB (arN b O (nz aB (arN s O (nilP ?_))));refine ixA O ?_;rw[add_lit,add_lit,zG,zBI];refine h.rM O (JnB.intro ?_);cases hM:M (y/8/8)with
 | none=>
  refine ifT rfl (ifT rfl ?_);have e:=h.midN _ O hM (y/8%8) O;rw[d]at e;have:=h.leafN _ O e (y%8) O;rw[a]at this;rw[this]at hR;exact hR
 | some q=>
  refine ifF rfl (nz aB (arN b O (nz aB (nilP ?_))));rw[g];refine ixA O ?_;rw[add_lit,zG,zBI];refine h.rL O hM O ?_;rw[d];cases hL:Lf (y/8)with
  | none=>
   refine ifT rfl ?_;have:=h.leafN _ O hL (y%8) O;rw[a]at this;rw[this]at hR;exact hR
  | some r=>
   refine ifF rfl (nz aB (arN b O (nz aB (nilP ?_))));rw[g];refine ixA O ?_;rw[add_lit,zG,zBI];refine h.rL O hM O ?_;rw[d,hL];refine nz aB (nilP ?_);rw[i];refine ixA O ?_;rw[add_lit,zG,zBI];refine h.rN O hL O ?_;rw[a];exact hR
theorem WmN {R:Option Addr->Hp->Prop}(hR:∀σ' p,Ext0 σ σ'->σ.size<=p->PmH σ' (λb=>σ.size<=b) p (λ_=>0)->R (some ⟨p,0,none⟩) σ'):Qd.c σ R:=by
 refine Qd.o ?_;unfold Qd.v;refine nw (cs:=[.bool true,.pointer none,.pointer none,.pointer none,.pointer none,.pointer none,.pointer none,.pointer none,.pointer none,.pointer none,.pointer none,.pointer none,.pointer none,.pointer none,.pointer none,.pointer none,.pointer none]) λv d e a=>?_;refine hR v _ e (zD _) ⟨λ_=>none,λ_=>none,a,?_,?_,?_,?_,zD _,?_,?_,?_,?_,?_⟩<;>intros<;>simp_all
theorem Wh6 (h:PmS σ F p M Lf ow){i:Nat}(hi:i<16){R:Option Addr->Hp->Prop}
 (hR:∀σ' M' q,Ext F σ σ'->M' i=some q->PmS σ' (Grow F σ) p M' Lf ow->R (some ⟨q,0,none⟩) σ'):Ww.c (some ⟨p,1+i,none⟩) σ R:=by
 refine Ww.o ?_;unfold Ww.v;refine Jn.intro (nilP (h.rM hi ?_));cases hM:M i with
 | some q=>exact ifF rfl (nilP (h.rM hi (by rw[hM];exact hR σ M q (Ext.refl _ _) hM (h.move (λ_ _ _=>rfl) λ_ _ C=>.inl C))))
 | none=>
  refine ifT rfl (nw (cs:=[.pointer none,.pointer none,.pointer none,.pointer none,.pointer none,.pointer none,.pointer none,.pointer none]) λE G y x=>nilP ?_);have D:=h.hd.lt;refine(y.blk h.hd id).s0 aE λw o2 r=>?_;have u:(Value.bool true::(List.range 16).map λi=>ptr (M i)).set (1+i) (.pointer (some ⟨σ.size,0,none⟩))=.bool true::(List.range 16).map λj=>ptr (upd M i (some σ.size) j):=by
   rw[Nat.add_comm,zCY,Ke]
   congr 1
   apply zAH;intro j _;simp only[upd];split<;>rfl
  rw[u]at r;have s:∀{b:Nat} {cs:List Value},Blk σ b cs->b≠p->Blk w b cs:=λz A=>Ws o2 (y.blk z id) A;have B:PmS w (Grow F σ) p (upd M i (some σ.size)) Lf ow:=by
   refine⟨r,λj q g a=>?_,λj g a=>?_,λk q d a=>s (h.leaf k q d a) (h.fl k q d a).2,h.leafN,.inl h.fp,λj q g a=>?_,λk q d a=>⟨.inl (h.fl k q d a).1,(h.fl k q d a).2⟩,λj k q g d m e=>?_,h.ll,λj k q g d a=>?_⟩
   ·by_cases hji:j=i
    ·subst hji;rw[ZN]at a;cases a;have A:=h.midN j g hM;have:((List.range 8).map λk=>ptr (Lf (8*j+k)))=[.pointer none,.pointer none,.pointer none,.pointer none,.pointer none,.pointer none,.pointer none,.pointer none]:=by
      have:((List.range 8).map λk=>ptr (Lf (8*j+k)))=(List.range 8).map λ_=>Value.pointer none:=by
       apply zAH;intro k d;rw[zU]at d;rw[A k d];rfl
      rw[this];rfl
     rw[this];exact Ws o2 x O
    ·rw[Qr _ _ hji]at a;exact s (h.mid j q g a) (h.fm j q g a).2
   ·by_cases hji:j=i
    ·subst hji;rw[ZN]at a;cases a
    ·rw[Qr _ _ hji]at a;exact h.midN j g a
   ·by_cases hji:j=i
    ·subst hji;rw[ZN]at a;cases a;exact⟨.inr (zD _),O⟩
    ·rw[Qr _ _ hji]at a;exact⟨.inl (h.fm j q g a).1,(h.fm j q g a).2⟩
   ·by_cases hji:j=i
    ·by_cases hki:k=i
     ·omega
     ·subst hji;rw[ZN]at m;cases m;rw[Qr _ _ hki]at e;have:=(h.mid k _ d e).lt;omega
    ·rw[Qr _ _ hji]at m;by_cases hki:k=i
     ·subst hki;rw[ZN]at e;cases e;have:=(h.mid j _ g m).lt;omega
     ·rw[Qr _ _ hki]at e;exact h.mm j k q g d m e
   ·by_cases hji:j=i
    ·subst hji;rw[ZN]at a;cases a;intro hl;have:=(h.leaf k _ d hl).lt;omega
    ·rw[Qr _ _ hji]at a;exact h.ml j k q g d a
  refine nilP (B.rM hi ?_);rw[ZN];exact hR w _ σ.size (y.to.trans (o2.ext.sub λb z=>z▸h.fp)) (ZN _ _ _) B
theorem Wgl (h:PmS σ F p M Lf ow){i j q:Nat}(hi:i<16)(hj:j<8)(hq:M i=some q){R:Option Addr->Hp->Prop}
 (hR:∀σ' L' r,Ext F σ σ'->L' (8*i+j)=some r->PmS σ' (Grow F σ) p M L' ow->R (some ⟨r,0,none⟩) σ'):Wy.c (some ⟨q,j,none⟩) σ R:=by
 refine Wy.o ?_;unfold Wy.v;have U:8*i+j<128:=by omega
 refine Jn.intro (nilP (h.rL hi hq hj ?_));cases hL:Lf (8*i+j)with
 | some r=>exact ifF rfl (nilP (h.rL hi hq hj (by rw[hL];exact hR σ Lf r (Ext.refl _ _) hL (h.move (λ_ _ _=>rfl) λ_ _ E=>.inl E))))
 | none=>
  refine ifT rfl (nw (cs:=[.int .i64 0,.int .i64 0,.int .i64 0,.int .i64 0,.int .i64 0,.int .i64 0,.int .i64 0,.int .i64 0]) λW X L K=>nilP ?_);have S:=h.mid i q hi hq;have V:=S.lt;have E:=h.fm i q hi hq;refine(L.blk S id).s0 aE λJ o2 y=>?_;have z:∀{b:Nat} {cs:List Value},Blk σ b cs->b≠q->Blk J b cs:=λN P=>Ws o2 (L.blk N id) P;have Q:PmS J (Grow F σ) p M (upd Lf (8*i+j) (some σ.size)) ow:=by
   refine⟨z h.hd (Ne.symm E.2),λm x g a=>?_,λm g a A H=>?_,λk r d s=>?_,λk d s=>?_,.inl h.fp,λm x g a=>⟨.inl (h.fm m x g a).1,(h.fm m x g a).2⟩,λk r d s=>?_,h.mm,λk G r C B w u=>?_,λm k x g d a=>?_⟩
   ·by_cases hii:m=i
    ·subst hii;rw[hq]at a;cases a;rw[Ke]at y;have:((List.range 8).map (upd (λj=>ptr (Lf (8*m+j))) j (.pointer (some ⟨σ.size,0,none⟩))))=(List.range 8).map λk=>ptr (upd Lf (8*m+j) (some σ.size) (8*m+k)):=by
      apply zAH;intro k _;simp only[upd];by_cases hkj:k=j
      ·subst hkj;simp[ptr]
      ·have:¬8*m+k=8*m+j:=by omega
       simp[hkj,this]
     rw[this]at y;exact y
    ·have D:x≠q:=λe=>by subst e;exact hii (h.mm m i x g hi a hq)
     have:=z (h.mid m x g a) D;have e:((List.range 8).map λk=>ptr (upd Lf (8*i+j) (some σ.size) (8*m+k)))=(List.range 8).map λk=>ptr (Lf (8*m+k)):=by
      apply zAH;intro k d;rw[zU]at d;rw[Qr _ _ O]
     rw[e];exact this
   ·have D:m≠i:=λe=>by subst e;rw[hq]at a;cases a
    rw[Qr _ _ O];exact h.midN m g a A H
   ·by_cases hkk:k=8*i+j
    ·subst hkk;rw[ZN]at s;cases s;have P:=h.leafN _ U hL;have:((List.range 8).map λA=>Value.int .i64 ((ow (8*(8*i+j)+A):Nat):Int))=[.int .i64 0,.int .i64 0,.int .i64 0,.int .i64 0,.int .i64 0,.int .i64 0,.int .i64 0,.int .i64 0]:=by
      have:((List.range 8).map λA=>Value.int .i64 ((ow (8*(8*i+j)+A):Nat):Int))=(List.range 8).map λ_=>Value.int .i64 0:=by
       apply zAH;intro k d;rw[zU]at d;rw[P k d];rfl
      rw[this];rfl
     rw[this];exact Ws o2 K O
    ·rw[Qr _ _ hkk]at s;exact z (h.leaf k r d s) λe=>by subst e;exact h.ml i k r hi d hq s
   ·by_cases hkk:k=8*i+j
    ·subst hkk;rw[ZN]at s;cases s
    ·rw[Qr _ _ hkk]at s;exact h.leafN k d s
   ·by_cases hkk:k=8*i+j
    ·subst hkk;rw[ZN]at s;cases s;have:=h.hd.lt;exact⟨.inr (zD _),O⟩
    ·rw[Qr _ _ hkk]at s;exact⟨.inl (h.fl k r d s).1,(h.fl k r d s).2⟩
   ·by_cases e1':k=8*i+j
    ·by_cases e2':G=8*i+j
     ·omega
     ·subst e1';rw[ZN]at w;cases w;rw[Qr _ _ e2']at u;have:=(h.leaf G _ B u).lt;omega
    ·rw[Qr _ _ e1']at w;by_cases e2':G=8*i+j
     ·subst e2';rw[ZN]at u;cases u;have:=(h.leaf k _ C w).lt;omega
     ·rw[Qr _ _ e2']at u;exact h.ll k G r C B w u
   ·by_cases hkk:k=8*i+j
    ·subst hkk;rw[ZN];intro e;cases e;have:=(h.mid m _ g a).lt;omega
    ·rw[Qr _ _ hkk];exact h.ml m k x g d a
  refine nilP (Q.rL hi hq hj ?_);rw[ZN];exact hR J _ σ.size (L.to.trans (o2.ext.sub λb N=>N▸E.1)) (ZN _ _ _) Q
theorem Wlm (h:PmS σ F p M Lf ow){k r j no:Nat}(hk:k<128)(hr:Lf k=some r)(hj:j<8){σ':Hp}(ho:QD σ σ' r)(hb:Blk σ' r (((List.range 8).map λj=>Value.int .i64 ((ow (8*k+j):Nat):Int)).set j (.int .i64 (no:Int)))) :
 PmS σ' F p M Lf (upd ow (8*k+j) no):=by
 refine⟨Ws ho h.hd (Ne.symm (h.fl k r hk hr).2),λi q x y=>Ws ho (h.mid i q x y) λe=>by subst e;exact h.ml i k q x hk y hr,h.midN,λd u g b=>?_,λd g b s w=>?_,h.fp,h.fm,h.fl,h.mm,h.ll,h.ml⟩
 ·by_cases hkk:d=k
  ·subst hkk;rw[hr]at b;cases b;rw[Ke]at hb;have:((List.range 8).map (upd (λj=>Value.int .i64 ((ow (8*d+j):Nat):Int)) j (.int .i64 (no:Int))))=(List.range 8).map λs=>Value.int .i64 ((upd ow (8*d+j) no (8*d+s):Nat):Int):=by
    apply zAH;intro a _;simp only[upd];by_cases haj:a=j
    ·subst haj;simp
    ·have:¬8*d+a=8*d+j:=by omega
     simp[haj,this]
   rw[this]at hb;exact hb
  ·have m:u≠r:=λe=>by subst e;exact hkk (h.ll d k u g hk b hr)
   have:=Ws ho (h.leaf d u g b) m;have e:((List.range 8).map λa=>Value.int .i64 ((upd ow (8*k+j) no (8*d+a):Nat):Int))=(List.range 8).map λa=>Value.int .i64 ((ow (8*d+a):Nat):Int):=by
    apply zAH;intro a ha;rw[zU]at ha;rw[Qr _ _ O]
   rw[e];exact this
 ·have m:d≠k:=λe=>by subst e;rw[hr]at b;cases b
  rw[Qr _ _ O];exact h.leafN d g b s w
theorem WhS (h:PmS σ F p M Lf ow){i j q:Nat}(hi:i<16)(hj:j<8)(hq:M i=some q)(hz:∀a,a<8->ow (8*(8*i+j)+a)=0){σ':Hp}(ho:QD σ σ' q)(hb:Blk σ' q (((List.range 8).map λj=>ptr (Lf (8*i+j))).set j (.pointer none))) :
 PmS σ' F p M (upd Lf (8*i+j) none) ow:=by
 have G:=h.fm i q hi hq;refine⟨Ws ho h.hd (Ne.symm G.2),λd y g b=>?_,λd g b E B=>?_,λk r x m=>?_,λk x m=>?_,h.fp,h.fm,λk r x m=>?_,h.mm,λk D r A z u s=>?_,λd k y g w b=>?_⟩
 ·by_cases hii:d=i
  ·subst hii;rw[hq]at b;cases b;rw[Ke]at hb;have:((List.range 8).map (upd (λj=>ptr (Lf (8*d+j))) j (.pointer none)))=(List.range 8).map λk=>ptr (upd Lf (8*d+j) none (8*d+k)):=by
    apply zAH;intro k _;simp only[upd];by_cases hkj:k=j
    ·subst hkj;simp[ptr]
    ·have:¬8*d+k=8*d+j:=by omega
     simp[hkj,this]
   rw[this]at hb;exact hb
  ·have C:y≠q:=λe=>by subst e;exact hii (h.mm d i y g hi b hq)
   have:=Ws ho (h.mid d y g b) C;have e:((List.range 8).map λk=>ptr (upd Lf (8*i+j) none (8*d+k)))=(List.range 8).map λk=>ptr (Lf (8*d+k)):=by
    apply zAH;intro k w;rw[zU]at w;rw[Qr _ _ O]
   rw[e];exact this
 ·simp only[upd];split
  ·rfl
  ·exact h.midN d g b E B
 ·by_cases hkk:k=8*i+j
  ·subst hkk;rw[ZN]at m;cases m
  ·rw[Qr _ _ hkk]at m;exact Ws ho (h.leaf k r x m) λe=>by subst e;exact h.ml i k r hi x hq m
 ·by_cases hkk:k=8*i+j
  ·subst hkk;exact hz
  ·rw[Qr _ _ hkk]at m;exact h.leafN k x m
 ·by_cases hkk:k=8*i+j
  ·subst hkk;rw[ZN]at m;cases m
  ·rw[Qr _ _ hkk]at m;exact h.fl k r x m
 ·by_cases e1':k=8*i+j
  ·subst e1';rw[ZN]at u;cases u
  ·rw[Qr _ _ e1']at u;by_cases e2':D=8*i+j
   ·subst e2';rw[ZN]at s;cases s
   ·rw[Qr _ _ e2']at s;exact h.ll k D r A z u s
 ·by_cases hkk:k=8*i+j
  ·subst hkk;rw[ZN];intro e;cases e
  ·rw[Qr _ _ hkk];exact h.ml d k y g w b
theorem Wle (h:PmS σ F p M Lf ow){i:Nat}(hi:i<16)(hz:∀j,j<8->Lf (8*i+j)=none){σ':Hp}(ho:QD σ σ' p)(hb:Blk σ' p ((Value.bool true::(List.range 16).map λi=>ptr (M i)).set (1+i) (.pointer none))) :
 PmS σ' F p (upd M i none) Lf ow:=by
 have m:(Value.bool true::(List.range 16).map λi=>ptr (M i)).set (1+i) (.pointer none)=.bool true::(List.range 16).map λj=>ptr (upd M i none j):=by
  rw[Nat.add_comm,zCY,Ke]
  congr 1
  apply zAH;intro j _;simp only[upd];split<;>rfl
 rw[m]at hb;have e:∀{j q},upd M i none j=some q->M j=some q:=λ{j q} d=>by
  by_cases hji:j=i
  ·subst hji;rw[ZN]at d;cases d
  ·rwa [Qr _ _ hji]at d
 refine⟨hb,λj q g d=>Ws ho (h.mid j q g (e d)) (h.fm j q g (e d)).2,λj g d=>?_,λk q r d=>Ws ho (h.leaf k q r d) (h.fl k q r d).2,h.leafN,h.fp,λj q g d=>h.fm j q g (e d),h.fl,λa b q s hb w u=>h.mm a b q s hb (e w) (e u),h.ll,λa k q s r d=>h.ml a k q s r (e d)⟩;by_cases hji:j=i
 ·subst hji;exact hz
 ·rw[Qr _ _ hji]at d;exact h.midN j g d
theorem Won (h:PmH σ F p ow){x no:Nat}(hx:x<1024){R:aP}(hR:∀σ',Ext F σ σ'->PmH σ' (Grow F σ) p (upd ow x no)->R σ'):Zs.c (aW p) (x:Int) (no:Int) σ R:=by
 refine Zs.o ?_;unfold Zs.v;obtain⟨M,Lf,h⟩:=h;have N:((x:Int).tdiv 8)=((x/8:Nat):Int):=by rw[YM O];simp
 have t2:(((x/8:Nat):Int).tdiv 8)=((x/8/8:Nat):Int):=by rw[YM O];simp
 have t3:(((x/8:Nat):Int).tmod 8)=((x/8%8:Nat):Int):=by rw[Q7 O];simp
 have t4:((x:Int).tmod 8)=((x%8:Nat):Int):=by rw[Q7 O];simp
 have hk:8*(x/8/8)+x/8%8=x/8:=by omega
 have Y:8*(x/8)+x%8=x:=by omega
 refine nz aB (arN N O (nz aB (arN t2 O (nilP ?_))));refine ixA O ?_;rw[add_lit,add_lit,zG,zBI];refine Wh6 h O λW M1 q e1 L h1=>?_;refine nz aB (arN N O (nz aB (nilP ?_)));rw[t3];refine ixA O ?_;rw[add_lit,zG,zBI];refine Wgl h1 O O L λv2 L2 r e2 D S=>?_;rw[hk]at D;have e02:Ext F σ v2:=e1.growT e2;refine nz aB (nilP ?_);rw[t4];refine ixA O ?_;rw[add_lit,zG,zBI];have s:x/8<128:=by omega
 refine(S.leaf _ r s D).s0 aE λv3 o3 b3=>?_;have z:=Wlm S s D O o3 b3;rw[Y]at z;have a:∀b,Grow (Grow F σ) W b->Grow F σ b:=λb u=>by
  rcases u with h|h
  ·exact h
  ·exact .inr (zI e1.1 h)
 have H:Ext F σ v3:=e02.newT o3.ext λb u=>by subst u;exact a _ (S.fl _ _ s D).1
 have tail:∀v L4,Ext F σ v->PmS v (Grow (Grow F σ) W) p M1 L4 (upd ow x no) →
  (NilP (some ⟨q,0,none⟩) λd=>LdP (d.add 0) v λt42=>LdP (d.add 1) v λG=>LdP (d.add 2) v λJ=>LdP (d.add 3) v λB=>LdP (d.add 4) v λA=>LdP (d.add 5) v λC=>LdP (d.add 6) v λE=>LdP (d.add 7) v λK=>
   If (t42.isNone&&(G.isNone&&(J.isNone&&(B.isNone&&(A.isNone&&(C.isNone&&(E.isNone&&(K.isNone&&true)))))))) (Nz 8<|Ar .i64 ((x:Int).tdiv 8) λV=>Nz 8<|Ar .i64 (V.tdiv 8) λt48=>NilP (some ⟨p,0,none⟩) λa49=>IxA (a49.add 1) 16 t48 1 λa51=>St1 a51 (.pointer none) v λX=>R X) (R v)):=by
  intro v L4 ev h4;have m:=h4.mid _ q O L;have g:∀j,j<8->((List.range 8).map λj=>ptr (L4 (8*(x/8/8)+j)))[0+j]?=some (.pointer ((L4 (8*(x/8/8)+j)).map λq=>⟨q,0,none⟩)):=λj y=>by rw[zG,Kf _ y];rfl
  refine nilP (m.rP (g 0 O) (m.rP (g 1 O) (m.rP (g 2 O) (m.rP (g 3 O) (m.rP (g 4 O) (m.rP (g 5 O) (m.rP (g 6 O) (m.rP (g 7 O) ?_))))))));have fin:∀w,Ext F σ w->PmH w (Grow (Grow F σ) W) p (upd ow x no)->R w:=λw ew hw=>hR w ew (PmH.loc.mono hw λb _ u=>a b u);refine iff_ (λe=>?_) λ_=>fin v ev ⟨_,_,h4⟩;have hz:∀j,j<8->L4 (8*(x/8/8)+j)=none:=by
   simp only[Option.isNone_map,zDD,zF,Option.isNone_iff_eq_none]at e;intro j y;obtain⟨a0,U,Q,Z,P,a5,a6,a7⟩:=e
   match j,y with
   | 0,_=>exact a0
   | 1,_=>exact U
   | 2,_=>exact Q
   | 3,_=>exact Z
   | 4,_=>exact P
   | 5,_=>exact a5
   | 6,_=>exact a6
   | 7,_=>exact a7
  refine nz aB (arN N O (nz aB (arN t2 O (nilP ?_))));refine ixA O ?_;rw[add_lit,add_lit,zG,zBI];refine h4.hd.s0 aE λX o4 b4=>fin X (ev.newT o4.ext λb u=>by subst u;exact a _ h4.fp) ⟨_,_,Wle h4 O hz o4 b4⟩
 refine Jn.intro (nilP ?_);have i:=z.leaf _ r s D;have g:∀j,j<8->((List.range 8).map λj=>Value.int .i64 ((upd ow x no (8*(x/8)+j):Nat):Int))[0+j]?=some (.int .i64 ((upd ow x no (8*(x/8)+j):Nat):Int)):=λj y=>by rw[zG,Kf _ y]
 refine i.rI (g 0 O) (i.rI (g 1 O) (i.rI (g 2 O) (i.rI (g 3 O) (i.rI (g 4 O) (i.rI (g 5 O) (i.rI (g 6 O) (i.rI (g 7 O) ?_)))))));refine iff_ (λe=>?_) λ_=>tail v3 L2 H z;have hz:∀j,j<8->upd ow x no (8*(8*(x/8/8)+x/8%8)+j)=0:=by
  rw[hk];simp only[Wg3,zDD,zF,zZ]at e;intro j y;obtain⟨a0,U,Q,Z,P,a5,a6,a7⟩:=e
  match j,y with
  | 0,_=>exact a0
  | 1,_=>exact U
  | 2,_=>exact Q
  | 3,_=>exact Z
  | 4,_=>exact P
  | 5,_=>exact a5
  | 6,_=>exact a6
  | 7,_=>exact a7
 refine nz aB (arN N O (nz aB (nilP ?_)));rw[t3];refine ixA O ?_;rw[add_lit,zG,zBI];have m:=z.mid _ q O L;refine m.s0 aE λv5 o5 b5=>?_;exact tail v5 _ (H.newT o5.ext λb u=>by subst u;exact a _ (z.fm _ _ O L).1) (WhS z O O L hz o5 b5)
def setO (ow:Nat->Nat)(a m no:Nat):Nat->Nat:=if Zf 1024 a m then λp=>if a<=p/\p<a+m then no else ow p else ow
def pmE (a m:Int):Int:=if Zf 1024 a m then 0 else 1
theorem Whr (h:PmH σ F p ow)(a m:Int)(ha : -1000000000000<=a)(ha2:a<=1000000000000)(no:Nat){R:aN}(h1:Zf 1024 a m=false->R 1 σ)
 (hR:∀x y:Nat,a=x->m=y->1<=y->x+y<=1024->∀σ',Ext F σ σ'->PmH σ' (Grow F σ) p (setO ow x y no)->R 0 σ'):YY.c (aW p) a m (no:Int) σ R:=by
 refine YY.o ?_;unfold YY.v;have d:¬(0<=a/\1<=m/\m<=1024-a)->R 1 σ:=λG=>h1 (by simp only[Zf,←zED];exact zd G);refine WeC h (ifF rfl (JnB.intro (ifD (λu=>JnB.intro (ifT rfl (JnB.intro (ifT rfl (ifT rfl (d O)))))) λu=>?_)));refine JnB.intro (ifD (λw=>JnB.intro (ifT rfl (ifT rfl (d O)))) λw=>?_);refine JnB.intro (ifD (λB=>ifT rfl (d O)) λB=>ar O O (ifD (λD=>d O) λD=>?_));obtain⟨x,rfl⟩:=zk (show 0<=a by omega);obtain⟨y,rfl⟩:=zk (show 0<=m by omega);have g:Zf 1024 (x:Int) (y:Int)=true:=by simp only[Zf,zF,zT];omega
 refine ZS (a:=bN) (λ(t:Int) v=>∃i:Nat,t=((x+i:Nat):Int)/\i<=y/\Ext F σ v/\PmH v (Grow F σ) p (λz=>if x<=z/\z<x+i then no else ow z)) (λt _=>x+y-t.toNat) ⟨0,rfl,O,Ext.refl _ _,?_⟩ ?_
 ·have:(λz=>if x<=z/\z<x+0 then no else ow z)=ow:=by
   funext z;rw[zA O]
  rw[this];exact PmH.loc.mono h λb _ j=>.inl j
 rintro t v ⟨i,rfl,J,e,r⟩;refine arN (m:=x+y) O O (ifD (λA=>?_) λC=>?_)
 ·refine Won r O λH s E=>arN (m:=x+(i+1)) O O ⟨⟨i+1,rfl,O,e.growT s,?_⟩,O⟩;refine PmH.congr (PmH.loc.mono E λb _ j=>?_) λz K=>?_
  ·rcases j with h|h
   ·exact h
   ·exact .inr (zI e.1 h)
  ·simp only[upd];by_cases hzi:z=x+i
   ·subst hzi;rw[zB rfl,zB O]
   ·rw[zA hzi];by_cases hin:x<=z/\z<x+i
    ·rw[zB hin,zB O]
    ·rw[zA hin,zA O]
 ·have:i=y:=by omega
  subst this;refine hR x i rfl rfl O O v e ?_;unfold setO;rw[g];exact r
theorem Wmt (h:PmH σ F p ow)(a m:Nat)(ha:a<=1000000){no:Nat}(hno:1<=no)(hno2:no<=1000){R:aN}(hR:∀σ',Ext F σ σ'->PmH σ' (Grow F σ) p (setO ow a m no)->R (pmE a m) σ'):Ys.c (aW p) a m (no:Int) σ R:=by
 refine Ys.o ?_;unfold Ys.v;refine WeC h (JnB.intro (ifT rfl (JnB.intro (ifDF O (ifDF O ?_)))));refine Whr h a m O O no (λj=>?_) λx y A w z u σ' e s=>?_
 ·have:=hR σ (Ext.refl _ _) (by unfold setO;rw[j];exact PmH.loc.mono h λb _ r=>.inl r);unfold pmE at this;rw[j]at this;exact this
 ·have d:a=x:=by omega
  have i:m=y:=by omega
  subst d;subst i;have g:Zf 1024 (a:Int) (m:Int)=true:=by simp only[Zf,zF,zT];omega
  have:=hR σ' e s;unfold pmE at this;rw[g]at this;exact this
theorem Wia (h:PmH σ F p ow)(a m:Nat)(ha:a<=1000000){R:aN}(hR:∀σ',Ext F σ σ'->PmH σ' (Grow F σ) p (setO ow a m 0)->R (pmE a m) σ'):XT.c (aW p) a m σ R:=by
 refine XT.o ?_;unfold XT.v;refine Whr h a m O O 0 (λj=>?_) λx y A w z u σ' e s=>?_
 ·have:=hR σ (Ext.refl _ _) (by unfold setO;rw[j];exact PmH.loc.mono h λb _ r=>.inl r);unfold pmE at this;rw[j]at this;exact this
 ·have d:a=x:=by omega
  have i:m=y:=by omega
  subst d;subst i;have g:Zf 1024 (a:Int) (m:Int)=true:=by simp only[Zf,zF,zT];omega
  have:=hR σ' e s;unfold pmE at this;rw[g]at this;exact this
end Go.Ar
namespace Go.Proofs
open Go.Shelf
def Tryz.keysL_ren:Go.Shelf.Ren:=⟨fun|7=>279|10=>299|n=>n,fun|23=>219|26=>3|3=>4|28=>117|0=>0|27=>116|33=>152|4=>4|n=>n,fun|n=>n⟩
theorem Tryz.keysL:Go.Proofs.SlLaysZI.n7 Tryz.prog Tryz.keysL_ren:={
 mixed:=by kernel_rfl
 f7:=⟨Tryz.f279.name,by decide,Tryz.func279.trans (congrArg some (by kernel_rfl))⟩
 f10:=⟨Tryz.f299.name,by decide,Tryz.func299.trans (congrArg some (by kernel_rfl))⟩
 t0:=Tryz.underlying0
 a0:=Tryz.isAgg0
 z0:=Tryz.sizeOf0
 v0:=Tryz.zeroValue0
 t4:=Tryz.underlying4
 a4:=Tryz.isAgg4
 z4:=Tryz.sizeOf4
 v4:=Tryz.zeroValue4
 t23:=Tryz.underlying219
 a23:=Tryz.isAgg219
 z23:=Tryz.sizeOf219
 v23:=Tryz.zeroValue219
 t26:=Tryz.underlying3
 a26:=Tryz.isAgg3
 z26:=Tryz.sizeOf3
 v26:=Tryz.zeroValue3
 t27:=Tryz.underlying116
 a27:=Tryz.isAgg116
 z27:=Tryz.sizeOf116
 v27:=Tryz.zeroValue116
 t28:=Tryz.underlying117
 a28:=Tryz.isAgg117
 z28:=Tryz.sizeOf117
 v28:=Tryz.zeroValue117
 t33:=Tryz.underlying152
 a33:=Tryz.isAgg152
 z33:=Tryz.sizeOf152
 v33:=Tryz.zeroValue152}
def Tryz.sortedL_ren:Go.Shelf.Ren:=⟨fun|6=>66|8=>93|9=>94|11=>127|13=>129|12=>128|23=>167|24=>168|14=>158|15=>159|16=>160|17=>161|18=>162|19=>163|20=>164|21=>165|22=>166|25=>205|26=>206|27=>207|28=>208|29=>209|30=>210|31=>249|n=>n,fun|26=>3|28=>117|24=>69|0=>0|3=>3|37=>199|48=>255|50=>257|4=>4|40=>248|39=>247|45=>252|5=>5|9=>9|51=>299|55=>105|57=>335|58=>336|33=>152|n=>n,fun|n=>n⟩
theorem Tryz.sortedL:Go.Proofs.SlLaysZI.n6 Tryz.prog Tryz.sortedL_ren:={
 mixed:=by kernel_rfl
 f6:=⟨Tryz.f66.name,by decide,Tryz.func66.trans (congrArg some (by kernel_rfl))⟩
 f8:=⟨Tryz.f93.name,by decide,Tryz.func93.trans (congrArg some (by kernel_rfl))⟩
 f11:=⟨Tryz.f127.name,by decide,Tryz.func127.trans (congrArg some (by kernel_rfl))⟩
 t0:=Tryz.underlying0
 a0:=Tryz.isAgg0
 z0:=Tryz.sizeOf0
 v0:=Tryz.zeroValue0
 t24:=Tryz.underlying69
 a24:=Tryz.isAgg69
 z24:=Tryz.sizeOf69
 v24:=Tryz.zeroValue69
 t26:=Tryz.underlying3
 a26:=Tryz.isAgg3
 z26:=Tryz.sizeOf3
 v26:=Tryz.zeroValue3
 t28:=Tryz.underlying117
 a28:=Tryz.isAgg117
 z28:=Tryz.sizeOf117
 v28:=Tryz.zeroValue117
 i26:=by kernel_rfl}
def Tryz.collL_ren:Go.Shelf.Ren:=⟨fun|8=>93|11=>127|n=>n,fun|26=>3|28=>117|24=>69|0=>0|33=>152|4=>4|n=>n,fun|n=>n⟩
theorem Tryz.collL:Go.Proofs.SlLaysZI.n8 Tryz.prog Tryz.collL_ren:={
 mixed:=by kernel_rfl
 f8:=⟨Tryz.f93.name,by decide,Tryz.func93.trans (congrArg some (by kernel_rfl))⟩
 f11:=⟨Tryz.f127.name,by decide,Tryz.func127.trans (congrArg some (by kernel_rfl))⟩
 t0:=Tryz.underlying0
 a0:=Tryz.isAgg0
 z0:=Tryz.sizeOf0
 v0:=Tryz.zeroValue0
 t24:=Tryz.underlying69
 a24:=Tryz.isAgg69
 z24:=Tryz.sizeOf69
 v24:=Tryz.zeroValue69
 t26:=Tryz.underlying3
 a26:=Tryz.isAgg3
 z26:=Tryz.sizeOf3
 v26:=Tryz.zeroValue3
 t28:=Tryz.underlying117
 a28:=Tryz.isAgg117
 z28:=Tryz.sizeOf117
 v28:=Tryz.zeroValue117
 i26:=by kernel_rfl}
def Tryz.sortL_ren:Go.Shelf.Ren:=⟨fun|5=>94|8=>129|7=>128|19=>167|20=>168|10=>158|11=>159|12=>160|13=>161|14=>162|15=>163|16=>164|17=>165|18=>166|30=>205|31=>206|32=>207|33=>208|34=>209|35=>210|40=>249|n=>n,fun|23=>69|25=>3|3=>3|32=>199|22=>69|0=>0|44=>255|46=>257|4=>4|36=>248|35=>247|41=>252|5=>5|9=>9|53=>299|57=>105|63=>335|64=>336|n=>n,fun|n=>n⟩
theorem Tryz.sortL:Go.Proofs.SlLaysM.n5 Tryz.prog Tryz.sortL_ren:={
 mixed:=by kernel_rfl
 f5:=⟨Tryz.f94.name,by decide,Tryz.func94.trans (congrArg some (by kernel_rfl))⟩
 f7:=⟨Tryz.f128.name,by decide,Tryz.func128.trans (congrArg some (by kernel_rfl))⟩
 f8:=Tryz.func129.trans (congrArg some (by kernel_rfl))
 f10:=⟨Tryz.f158.name,by decide,Tryz.func158.trans (congrArg some (by kernel_rfl))⟩
 f11:=⟨Tryz.f159.name,by decide,Tryz.func159.trans (congrArg some (by kernel_rfl))⟩
 f12:=⟨Tryz.f160.name,by decide,Tryz.func160.trans (congrArg some (by kernel_rfl))⟩
 f13:=⟨Tryz.f161.name,by decide,Tryz.func161.trans (congrArg some (by kernel_rfl))⟩
 f14:=⟨Tryz.f162.name,by decide,Tryz.func162.trans (congrArg some (by kernel_rfl))⟩
 f15:=⟨Tryz.f163.name,by decide,Tryz.func163.trans (congrArg some (by kernel_rfl))⟩
 f16:=⟨Tryz.f164.name,by decide,Tryz.func164.trans (congrArg some (by kernel_rfl))⟩
 f17:=⟨Tryz.f165.name,by decide,Tryz.func165.trans (congrArg some (by kernel_rfl))⟩
 f18:=⟨Tryz.f166.name,by decide,Tryz.func166.trans (congrArg some (by kernel_rfl))⟩
 f19:=Tryz.func167.trans (congrArg some (by kernel_rfl))
 f20:=Tryz.func168.trans (congrArg some (by kernel_rfl))
 f30:=⟨Tryz.f205.name,by decide,Tryz.func205.trans (congrArg some (by kernel_rfl))⟩
 f31:=Tryz.func206.trans (congrArg some (by kernel_rfl))
 f32:=Tryz.func207.trans (congrArg some (by kernel_rfl))
 f33:=⟨Tryz.f208.name,by decide,Tryz.func208.trans (congrArg some (by kernel_rfl))⟩
 f34:=⟨Tryz.f209.name,by decide,Tryz.func209.trans (congrArg some (by kernel_rfl))⟩
 f35:=⟨Tryz.f210.name,by decide,Tryz.func210.trans (congrArg some (by kernel_rfl))⟩
 f40:=⟨Tryz.f249.name,by decide,Tryz.func249.trans (congrArg some (by kernel_rfl))⟩
 t0:=Tryz.underlying0
 a0:=Tryz.isAgg0
 z0:=Tryz.sizeOf0
 v0:=Tryz.zeroValue0
 t3:=Tryz.underlying3
 a3:=Tryz.isAgg3
 z3:=Tryz.sizeOf3
 v3:=Tryz.zeroValue3
 t4:=Tryz.underlying4
 a4:=Tryz.isAgg4
 z4:=Tryz.sizeOf4
 v4:=Tryz.zeroValue4
 t5:=Tryz.underlying5
 a5:=Tryz.isAgg5
 z5:=Tryz.sizeOf5
 v5:=Tryz.zeroValue5
 t9:=Tryz.underlying9
 a9:=Tryz.isAgg9
 z9:=Tryz.sizeOf9
 v9:=Tryz.zeroValue9
 t22:=Tryz.underlying69
 a22:=Tryz.isAgg69
 z22:=Tryz.sizeOf69
 v22:=Tryz.zeroValue69
 t23:=Tryz.underlying69
 a23:=Tryz.isAgg69
 z23:=Tryz.sizeOf69
 v23:=Tryz.zeroValue69
 t25:=Tryz.underlying3
 a25:=Tryz.isAgg3
 z25:=Tryz.sizeOf3
 v25:=Tryz.zeroValue3
 t32:=Tryz.underlying199
 a32:=Tryz.isAgg199
 z32:=Tryz.sizeOf199
 v32:=Tryz.zeroValue199
 t35:=Tryz.underlying247
 a35:=Tryz.isAgg247
 z35:=Tryz.sizeOf247
 v35:=Tryz.zeroValue247
 t36:=Tryz.underlying248
 a36:=Tryz.isAgg248
 z36:=Tryz.sizeOf248
 v36:=Tryz.zeroValue248
 t41:=Tryz.underlying252
 a41:=Tryz.isAgg252
 z41:=Tryz.sizeOf252
 v41:=Tryz.zeroValue252
 t44:=Tryz.underlying255
 a44:=Tryz.isAgg255
 z44:=Tryz.sizeOf255
 v44:=Tryz.zeroValue255
 t46:=Tryz.underlying257
 a46:=Tryz.isAgg257
 z46:=Tryz.sizeOf257
 v46:=Tryz.zeroValue257
 t53:=Tryz.underlying299
 a53:=Tryz.isAgg299
 z53:=Tryz.sizeOf299
 v53:=Tryz.zeroValue299
 t57:=Tryz.underlying105
 a57:=Tryz.isAgg105
 z57:=Tryz.sizeOf105
 v57:=Tryz.zeroValue105
 t63:=Tryz.underlying335
 a63:=Tryz.isAgg335
 z63:=Tryz.sizeOf335
 v63:=Tryz.zeroValue335
 t64:=Tryz.underlying336
 a64:=Tryz.isAgg336
 z64:=Tryz.sizeOf336
 v64:=Tryz.zeroValue336}
end Go.Proofs
namespace Go.Bu
open Go Go.Vc Go.Proofs Go.RowKit Go.Maps Go.Sort Go.Shelf
variable {σ:Hp}
def SlF (B:Nat)(h:Hp)(s:Sl)(xs:List Value):Prop:=
 s.len=xs.length/\(xs=[]/\s.a=none\/∃b cs,B<=b/\s.a=some ⟨b,0,none⟩/\Blk h b cs/\∀j,j<xs.length->cs[j]?=xs[j]?)
theorem SlF.keep {B:Nat}{h h':Hp}{s:Sl}{xs:List Value}{F:Nat->Prop}(hs:SlF B h s xs)(e:Ext F h h')(hF:∀b,F b->b<B):SlF B h' s xs:=by
 refine⟨hs.1,hs.2.imp id ?_⟩;rintro⟨b,cs,hb,ha,hk,hc⟩;exact⟨b,cs,hb,ha,e.blk hk (λa=>by have:=hF b a;omega),hc⟩
theorem SlF.mono {B B':Nat}{h:Hp}{s:Sl}{xs:List Value}(hs:SlF B h s xs)(hB:B'<=B):SlF B' h s xs:=by
 refine⟨hs.1,hs.2.imp id ?_⟩;rintro⟨b,cs,hb,ha,hk,hc⟩;exact⟨b,cs,O,ha,hk,hc⟩
theorem SlF.ixI {B:Nat}{h:Hp}{s:Sl}{xs:List Int}(hs:SlF B h s (xs.map (Value.int .i64))){i:Nat}{x:Int}(hx:xs[i]?=some x){K:Int->Prop}(hK:K x) :
 Ix s.a s.len (i:Int) 1 λa=>LdI .i64 a h K:=by
 have d:i<xs.length:=(gSi.1 hx).1;rcases hs.2 with⟨h0,_⟩|⟨b,cs,_,ha,hb,hc⟩
 ·simp at h0;subst h0;simp at d
 ·rw[ha];refine ix O (by rw[hs.1];simp;omega) ?_;rw[add_lit];refine ldI ?_ hK;rw[hb.cell];have:=hc i (by simpa using d);simpa[hx]using this
theorem Gx {w w':World}(h:Below w.heap.size w w'):Ext0 w.heap w'.heap:=⟨h.size,λb a _=>h.block b a⟩
theorem WcE {n:Nat}{w w':World}(h:Below n w w'):ZP w w':=⟨h.os,h.tape,h.output,h.size⟩
def Wbt:Nat:=Tryz.keysL_ren.f 10
def WlM:Nat:=Tryz.keysL_ren.t 23
theorem WmV (m:Option Nat){R:Fv->Hp->Prop}(hR:R ⟨Wbt,#[],#[.pointer (some ⟨σ.size,0,none⟩)]⟩ (σ.push (.cells #[.map m] WlM (0,0)))) :
 Qm.c m σ R:=by
 rintro w rfl;refine(callsIn_wide.1 (AnyZI.keys_in Tryz.keysL Fence.wide 5 trivial rfl m w)).mono ?_;rintro e a ⟨rfl,rfl⟩;exact⟨⟨rfl,rfl,rfl,zCS (by show _<(w.heap.push _).size;simp)⟩,[.func (.func Wbt) #[] #[.pointer (some ⟨w.heap.size,0,none⟩)]],rfl,⟨Wbt,#[],#[.pointer (some ⟨w.heap.size,0,none⟩)]⟩,rfl,hR⟩
def I64 (x:Int):Prop:=-9223372036854775808<=x/\x<=9223372036854775807
theorem UW {P:Program}{kt:Nat}(hk:P.underlying kt=some (.int .i64)){w:World}{m:Nat}{c:CK}{B:List (Int×c.T)}(h:MapL w.heap m .i64 c B)(hb:∀x∈B,I64 x.1)(hs:B.length<=1000000) :
 ∃D:DataW Unit,w.ownsMap P kt (λ_=>some (.nil,[])) m B.length D/\(intKeys D).Perm (B.map (·.1))/\Maps.size D=B.length:=by
 obtain⟨d,z,L,u,N,H,C⟩:=h;have j:d.size=B.length:=by simpa using congrArg List.length u
 have r:∀e∈d.toList,∃x:Int,e.key=.int .i64 x/\I64 x:=by
  intro e hme;have:(e.key,e.val)∈d.toList.map (λe=>(e.key,e.val)):=zFD hme;rw[u]at this;obtain⟨y,J,G⟩:=zC.1 this;simp only[Prod.mk.injEq]at G;exact⟨y.1,G.1.symm,hb y J⟩
 have wf:∀x:Int,I64 x->(Lit.int .i64 x).wf=true:=by
  rintro x ⟨s,Q⟩;simp[Lit.wf,IntKind.min,IntKind.max,IntKind.bits,IntKind.signed];omega
 have i:∀e∈d.toList,∃x:Int,e.key=.int .i64 x/\Go.WideElems.rd P kt (λ_=>some ((.nil:DataW Unit),[])) e=some (.int .i64 x,.nil):=by
  intro e hme;obtain⟨x,g,M⟩:=r e hme;refine⟨x,g,?_⟩;simp[Go.WideElems.rd,keyOf,hk,g,mapKey,wf x M]
 refine⟨.map ((d.toList.map (Go.WideElems.rg P kt (λ_=>some (.nil,[])))).foldr DataW.insert []),⟨d,z,L,⟨?_,⟨λx g=>C x g,?_,?_⟩,λx g=>?_⟩,O,rfl⟩,?_,?_⟩
 ·have:1000000<=maxLen:=by unfold maxLen;omega
  omega
 ·exact H.imp (λh=>zEM h)
 ·have F:d.toList.map (·.key)=(B.map (·.1)).map (Value.int .i64):=by
   have:=congrArg (List.map Prod.fst) u;simpa[zAC,Function.comp_def]using this
  rw[F];exact List.Pairwise.map _ (λa b (E:a≠b) A=>E (by simpa using A)) N
 ·obtain⟨R,_,s⟩:=i x g;exact⟨_,s⟩
 ·simp only[intKeys];refine((Go.WideShapes.sorted_perm _).map _).trans ?_;rw[zAC];have:d.toList.map ((λp=>Go.intOf p.1)∘Go.WideElems.rg P kt (λ_=>some ((.nil:DataW Unit),[])))=B.map (·.1):=by
   have F:d.toList.map (·.key)=(B.map (·.1)).map (Value.int .i64):=by
    have:=congrArg (List.map Prod.fst) u;simpa[zAC,Function.comp_def]using this
   have K:d.toList.map ((λp=>Go.intOf p.1)∘Go.WideElems.rg P kt (λ_=>some ((.nil:DataW Unit),[])))=(d.toList.map (·.key)).map (λv=>match v with | .int _ x=>x|_=>0):=by
    rw[zAC];apply zAH;intro e hme;obtain⟨x,g,s⟩:=i e hme;simp[Function.comp,Go.WideElems.rg,s,g,Go.intOf]
   rw[K,F,zAC]
   conv=>rhs;rw[←zEK (B.map (·.1))]
   rfl
  rw[this]
 ·simp only[Maps.size];rw[(Go.WideShapes.sorted_perm _).length_eq];simp[j]
theorem Wch {w:World}{B e n:Nat}{v:Value}{xs:List Value}(h:w.ownsRow B e 1 v n xs):∃s:Sl,v=.slice s.a s.len s.cap/\SlF B w.heap s xs:=by
 obtain⟨b,h⟩:=h;rcases h with⟨rfl,rfl⟩|⟨g,cap,cur,rfl,hb,hg,_,_,hcs,ht⟩
 ·exact⟨⟨none,0,0⟩,rfl,by simp at b;simp[b],.inl ⟨by simpa using b,rfl⟩⟩
 ·refine⟨⟨some ⟨g,0,none⟩,n,cap⟩,rfl,by simp at b;simp[b],.inr ⟨g,cur.toList,hb,rfl,⟨e,by simpa using hg⟩,λj d=>?_⟩⟩;rw[←ht,zX,zB O]
theorem Wlv {w:World}{c m:Nat}{B:List (Int×Bool)}(hc:cell w.heap ⟨c,0,none⟩=some (.map (some m)))(hm:MapL w.heap m .i64 .b B)(hb:∀x∈B,I64 x.1)(hs:B.length<=1000000)(n:Nat)(hn:1<=n) :
 SeqGives Fence.wide n Tryz.prog Wbt #[.pointer (some ⟨c,0,none⟩)] encZ (λss=>ss.Perm (B.map (·.1))) B.length w:=by
 obtain⟨D,j,i,d⟩:=UW (P:=Tryz.prog) Tryz.keysL.t26 hm hb hs;have a:c<w.heap.size:=by
  unfold cell at hc;split at hc
  ·rename_i h;exact(zAQ.1 h).1
  ·cases hc
 have:=AnyZI.keys_gives (ρ:=Tryz.keysL_ren) {Tryz.keysL with} Fence.wide n trivial rfl hn c m B.length D w a hc j;intro l J W hW hJ hY h0;rw[d]at this;refine(this l J W hW hJ hY h0).mono ?_;rintro e W' ⟨r,ss,p,g⟩;exact⟨r,ss,p.trans i,g⟩
theorem Woo (m:Nat):AnyZI.SortsIn Tryz.prog Tryz.sortedL_ren Fence.wide m:=
 ⟨λblk d cap e W g a b=>callsIn_wide.2 (AnyM.slices_Sort_int Tryz.sortL blk d cap e W g a b),
  λp cap W=>callsIn_wide.2 (AnyM.slices_Sort_int_none Tryz.sortL p cap W)⟩
theorem Wgp {c m:Nat}{B:List (Int×Bool)}(hc:cell σ ⟨c,0,none⟩=some (.map (some m)))(hm:MapL σ m .i64 .b B)(hb:∀x∈B,I64 x.1)(hs:B.length<=1000000){R:Sl->Hp->Prop}
 (hR:∀(s:Sl) (σ':Hp) (ss:List Int),Ext0 σ σ'->ss.Perm (B.map (·.1))->SlF σ.size σ' s (ss.map (Value.int .i64))->R s σ') :
 Vq.c ⟨Wbt,#[],#[.pointer (some ⟨c,0,none⟩)]⟩ σ R:=by
 rintro w rfl;have g:=Wlv hc hm hb hs 3 O;have p:B.length<=maxLen:=by unfold maxLen;omega
 have y:=AnyZI.collect_in Tryz.collL Fence.wide 5 trivial trivial rfl O Wbt #[.pointer (some ⟨c,0,none⟩)] trivial (Tryz.keysL.f10.enters rfl) _ _ p O _ g;refine(callsIn_wide.1 y).mono ?_;rintro e z ⟨v,ss,rfl,u,i,r,d⟩;obtain⟨s,rfl,j⟩:=Wch i;exact⟨WcE d,[.slice s.a s.len s.cap],rfl,s,rfl,hR s _ ss (Gx d) u j⟩
end Go.Bu
namespace Go.Bu
open Go Go.Vc Go.Proofs
variable {σ:Hp}{p n sb:Nat}{S:Nat->Bool}{ms:List Nat}
theorem Woy {B:Nat}{s:Sl}{xs:List Int}(hs:SlF B σ s (xs.map (Value.int .i64)))(hl:xs.length<1000000000){m:Int}(hm:m∈xs)(hle:∀y∈xs,m<=y){R:aN}(hR:R m σ):X3.c s σ R:=by
 refine X3.o ?_;unfold X3.v;have A:s.len=xs.length:=by simpa using hs.1
 have g:0<xs.length:=List.length_pos_of_mem hm;refine Jn.intro (ifDF O ?_);have u:xs[0]?=some xs[0]:=by simp[g]
 refine hs.ixI (i:=0) u ?_;refine Ko (a:=bN) (bb:=bN) (λ(c t:Int) x=>∃k:Nat,t=(k:Int)/\k<=xs.length/\x=σ/\c∈xs/\∀(j:Nat) (y:Int),j<k->xs[j]?=some y->c<=y) (λ_ t _=>xs.length-t.toNat)
  ⟨1,rfl,O,rfl,zc _,λj y p d=>?_⟩ ?_
 ·have:j=0:=by omega
  subst this;rw[u]at d;cases d;omega
 rintro c t x ⟨k,rfl,G,rfl,z,b⟩;refine ifD (λE=>?_) (λF=>?_)
 ·have r:k<xs.length:=by omega
  have w:xs[k]?=some xs[k]:=by simp[r]
  refine hs.ixI w (arN (m:=k+1) O O ⟨⟨k+1,rfl,O,rfl,?_,λj y p d=>?_⟩,O⟩)
  ·split
   ·exact zc _
   ·exact z
  ·by_cases e:j=k
   ·subst e;rw[w]at d;cases d;split<;>omega
   ·have:=b j y O d;split<;>omega
 ·have:k=xs.length:=by omega
  subst this;obtain⟨j,p,e⟩:=zDY hm;have D:=b j m p (by simp[p,e]);have C:=hle c z;have:c=m:=Int.le_antisymm D C;rw[this];exact hR
def Kh (n:Nat)(S:Nat->Bool)(k:Nat):List Nat:=((List.range n).filter (can S k)).map (· * 2^k)
theorem WnJ (hb:Bounded S n){k q:Nat}(hc:can S k q=true):q<n:=by
 have:=ZR hb (ZM.1 hc).1;have a:=zAG k;have b:q<=q*2^k:=zFY _ a;omega
theorem QQ (hb:Bounded S n){k x:Nat}:x∈Kh n S k↔∃q,x=q*2^k/\can S k q=true:=by
 simp only[Kh,zC,zH,zU];constructor
 ·rintro⟨q,⟨_,hc⟩,rfl⟩;exact⟨q,rfl,hc⟩
 ·rintro⟨q,rfl,hc⟩;exact⟨q,⟨WnJ hb hc,hc⟩,rfl⟩
theorem HB (n:Nat)(S:Nat->Bool)(k:Nat):(Kh n S k).Pairwise (· < ·):=by
 unfold Kh;refine List.Pairwise.map _ (λa b h=>Nat.mul_lt_mul_of_pos_right h (zAG k)) ?_;exact List.Pairwise.sublist zCT List.pairwise_lt_range
theorem HQ (n:Nat)(S:Nat->Bool)(k:Nat):(Kh n S k).length=many n S k:=by
 simp[Kh,many,zES]
theorem Whc {k:Nat}{B:List (Int×Bool)}(hK:Keys S k B)(hn:(B.map (·.1)).Nodup)(hb:Bounded S n):(B.map (·.1)).Perm ((Kh n S k).map λ(x:Nat)=>(x:Int)):=by
 rw[zEQ hn]
 ·intro x;simp only[zC];constructor
  ·rintro⟨⟨x1,x2⟩,hm,rfl⟩;obtain⟨_,q,i,d⟩:=hK.1 x1 x2 hm;exact⟨_,(QQ hb).2 ⟨q,rfl,d⟩,i.symm⟩
  ·rintro⟨y,hy,rfl⟩;obtain⟨q,rfl,d⟩:=(QQ hb).1 hy;exact⟨_,hK.2 q d,rfl⟩
 ·refine List.Pairwise.map _ (λa b (g:a<b)=>?_) (HB n S k);intro e;have:a=b:=by exact_mod_cast e
  omega
theorem Wka {k:Nat}{B:List (Int×Bool)}(hK:Keys S k B)(hb:Bounded S n)(hn:n<=1024):∀x∈B,I64 x.1:=by
 rintro⟨x,v⟩ hx;obtain⟨_,q,rfl,a⟩:=hK.1 x v hx;have:=ZR hb (ZM.1 a).1;have:=zAG k;constructor<;>simp only<;>omega
theorem Whi (h:BH σ p n S sb ms){k:Nat}(hk:ms.length<=k):Kh n S k=[]:=by
 rw[List.eq_nil_iff_forall_not_mem];intro x hx;obtain⟨q,_,a⟩:=(QQ h.bnd).1 hx;have:=h.fits (ZR h.bnd (ZM.1 a).1);omega
theorem WhM {h:Hp}{v:Value}{e:Nat}:cell (h.push (.cells #[v] e (0,0))) ⟨h.size,0,none⟩=some v:=by simp[cell]
theorem HE (h:Hp)(o:Obj):Ext0 h (h.push o):=Ext.push _ _ _
def isPow (a:Int):Bool:=(List.range 11).any λk=>a==((2^k:Nat):Int)
theorem WiE:(List.range 1025).all (λa=>a==0||((a &&& (a-1))==0)==((List.range 11).any λk=>a==2^k))=true:=by decide +kernel
theorem Web {a:Nat}(h1:1<=a)(h2:a<=1024):((a &&& (a-1))==0)=((List.range 11).any λk=>a==2^k):=by
 have:=zAA.1 WiE a (zU.2 O);simp only[zBL,zZ]at this;rcases this with h|h
 ·omega
 ·exact h
theorem WaX (a:Nat):isPow (a:Int)=((List.range 11).any λk=>a==2^k):=by
 unfold isPow
 congr 1
 funext k
 rw[zBD];simp only[zZ];exact⟨λh=>by exact_mod_cast h,λh=>by exact_mod_cast h⟩
def takeArg (pages align:Int):Bool:=decide (1<=pages)&&(decide (pages<=1024)&&(decide (1<=align)&&(decide (align<=1024)&&isPow align)))
def ZU (n:Nat)(S:Nat->Bool)(pages align:Nat):Nat->Option Nat
 | 0=>none
 | k+1=>match ZU n S pages align k with
  | some x=>some x
  | none=>if pages<=2^k/\align<=2^k then(Kh n S k).head? else none
def Zu (n:Nat)(S:Nat->Bool)(pages align:Nat):Option Nat:=ZU n S pages align 11
def takeE (n:Nat)(S:Nat->Bool)(pages align:Int):Int:=if takeArg pages align then(match Zu n S pages.toNat align.toNat with|some _=>0|none=>6)else 1
def takeV (n:Nat)(S:Nat->Bool)(pages align:Int):Nat:=if takeArg pages align then(match Zu n S pages.toNat align.toNat with|some x=>x|none=>0)else 0
def takeS (n:Nat)(S:Nat->Bool)(pages align:Int):Nat->Bool:=if takeArg pages align then(match Zu n S pages.toNat align.toNat with|some x=>take S x (x+pages.toNat)|none=>S)else S
theorem Wci {n:Nat}{S:Nat->Bool}{m a k x:Nat}(h:ZU n S m a k=some x):∀j,k<=j->ZU n S m a j=some x:=by
 intro j hj
 induction j with
 | zero=>
  have:k=0:=by omega
  subst this;exact h
 | succ j ih=>
  by_cases e:k=j+1
  ·subst e;exact h
  ·simp only[ZU,ih O]
theorem WcP (h:BH σ p n S sb ms){m a:Nat}(hn:ZU n S m a ms.length=none):∀j,ms.length<=j->ZU n S m a j=none:=by
 intro j hj
 induction j with
 | zero=>
  have:ms.length=0:=by omega
  rw[this]at hn;exact hn
 | succ j ih=>
  by_cases e:ms.length=j+1
  ·rw[←e];exact hn
  ·simp only[ZU,ih O,Whi h (show ms.length<=j by omega)];simp
theorem We1 {k:Nat}(hpos:0<many n S k):∃x rest,Kh n S k=x::rest:=by
 rw[←HQ]at hpos
 match h:Kh n S k with
 | []=>rw[h]at hpos;simp at hpos
 | x::r=>exact⟨x,r,rfl⟩
theorem Take_ok (h:BH σ p n S sb ms)(pages align:Int){R:Int->Int->Hp->Prop}
 (hR:∀σ',Ext (· ∈ ms) σ σ'->BH σ' p n (takeS n S pages align) sb ms->R ((takeV n S pages align:Nat):Int) (takeE n S pages align) σ'):XS.c (aW p) pages align σ R:=by
 refine XS.o ?_;unfold XS.v;have hn2:=h.n2;have hl:=h.len;have K:takeArg pages align=false->R 0 1 σ:=λe=>by
  have:=hR σ (Ext.refl _ _);simp only[takeS,takeV,takeE,e,zb,zt]at this;exact this h
 have d:¬(1<=pages/\pages<=1024/\1<=align/\align<=1024)->R 0 1 σ:=λhn=>K (by
  simp only[takeArg,←Bool.and_assoc,←zED];rw[zd];rfl;omega)
 refine Wcg h (ifF rfl (JnB.intro ?_));refine ifD (λh1=>JnB.intro (ifT rfl (JnB.intro (ifT rfl (JnB.intro (ifT rfl (ifT rfl (d O)))))))) λh1=>?_;refine JnB.intro (ifD (λh2=>JnB.intro (ifT rfl (JnB.intro (ifT rfl (ifT rfl (d O)))))) λh2=>?_);refine JnB.intro (ifD (λX=>JnB.intro (ifT rfl (ifT rfl (d O)))) λX=>?_);refine JnB.intro (ifD (λh4=>ifT rfl (d O)) λh4=>?_);obtain⟨a,rfl⟩:=zk (show 0<=align by omega);obtain⟨m,rfl⟩:=zk (show 0<=pages by omega);refine arN (m:=a-1) O O ?_;rw[bits_and_i64 O O];have G:((((a &&& (a-1):Nat):Int)) != 0) = !isPow (a:Int):=by
  rw[WaX,←Web O O];simp only[bne,Bool.not_inj_iff];rw[zBD];simp only[zZ];omega
 rw[G];cases P:isPow (a:Int)
 ·refine ifT rfl (K ?_);simp[takeArg,P]
 refine ifF rfl ?_;have N:takeArg (m:Int) (a:Int)=true:=by
  simp only[takeArg,P,zDD,zF,zT];omega
 refine nilP (h.rB λcap=>?_);refine ZS (a:=bN) (λt F=>∃k:Nat,t=(k:Int)/\k<=ms.length/\F=σ/\ZU n S m a k=none) (λt _=>ms.length-t.toNat) ⟨0,rfl,O,rfl,rfl⟩ ?_;rintro t F ⟨k,rfl,hk,rfl,r⟩;refine ifD (λad=>?_) (λab=>?_)
 ·simp only at ad;obtain⟨mm,U⟩:=h.get (k:=k) O;refine h.rM U (shl1 O (JnB.intro ?_));have next:ZU n S m a (k+1)=none->Ar .i64 ((k:Int)+1) λH=>(∃k:Nat,H=(k:Int)/\k<=ms.length/\F=F/\ZU n S m a k=none)/\ms.length-H.toNat<ms.length-(k:Int).toNat:=
   λJ=>arN (m:=k+1) O O ⟨⟨k+1,rfl,O,rfl,J⟩,O⟩
  refine ifD (λL=>?_) (λac=>ifF rfl (next ?_))
  ·have j:m<=2^k/\a<=2^k:=by
    have:((if(a:Int)>(m:Int)then(a:Int)else(m:Int))<=((2^k:Nat):Int)):=L
    split at this<;>omega
   refine h.mlen U ?_;refine ifD (λae=>?_) (λhz=>next ?_)
   ·have w:0<many n S k:=by omega
    obtain⟨x,rest,Q⟩:=We1 w;obtain⟨q,rfl,hc⟩:=(QQ h.bnd (k:=k) (x:=x)).1 (by rw[Q];simp);have D:Zu n S m a=some (q*2^k):=by
     refine Wci (k:=k+1) ?_ 11 O;simp only[ZU,r,zB j,Q,List.head?_cons]
    have hfb:=ZR h.bnd (ZM.1 hc).1;obtain⟨B,Z,E⟩:=h.maps k mm U;have g:=WbX E Z.nodup h.bnd;have hle:B.length<=1024:=by
     rw[g];have:=zEE (p:=can S k) (l:=List.range n);simp only[many,zBS]at *;omega
    refine WmV _ ?_;have V:=HE F (.cells #[.map (some mm)] WlM (0,0));refine Wgp WhM (V.mapL Z id) (Wka E h.bnd h.n2) O λs σ' ss e2 P aa=>?_;have A:=P.trans (Whc E Z.nodup h.bnd);have u:=A.length_eq;simp only[za]at u;rw[HQ,←g]at u;refine Woy aa O (m:=((q*2^k:Nat):Int)) (A.mem_iff.2 (by rw[Q];simp)) (λy hy=>?_) ?_
    ·have C:=A.mem_iff.1 hy;have b:=HB n S k;rw[Q]at C b;simp only[zJ,zQ,zC]at C;rcases C with rfl|⟨z,hz,rfl⟩
     ·omega
     ·have:=(zAR.1 b).1 z hz;omega
    ·have Y:=(h.keep0 V).keep0 e2;refine Wl0 Y O (λy hy1 hy2=>KW hc (Qc.2 O)) λX e3 W=>?_;have:=hR X ((V.to.trans e2.to).trans e3);simp only[takeS,takeV,takeE,N,iTn,D,zS]at this;exact this W
   ·simp only[ZU,r,zB j];have:Kh n S k=[]:=zGJ (by rw[HQ];omega);rw[this];rfl
  ·have M:¬(m<=2^k/\a<=2^k):=by
    have:¬((if(a:Int)>(m:Int)then(a:Int)else(m:Int))<=((2^k:Nat):Int)):=ac
    split at this<;>omega
   simp only[ZU,r,zA M]
 ·simp only at ab;have:k=ms.length:=by omega
  subst this;have D:Zu n S m a=none:=WcP h r 11 O;have:=hR F (Ext.refl _ _);simp only[takeS,takeV,takeE,N,iTn,D,zS]at this;exact this h
end Go.Bu
namespace Go.Ar
open Go.Bu
structure AR where
 n:Nat
 room:Nat
 tb:List Cls
 S:Nat->Bool
 st:List Nat
 ow:Nat->Nat
 cen:List (List SpA)
 tra:List TrA
 runs:List (Nat×Nat)
def AR.ck (A:AR)(k:Int):Bool:=decide (0<=k)&&decide (k<(A.tb.length:Int))
def V2 (A:AR)(r:Nat×Nat):AR:={A with ow:=setO A.ow r.1 r.2 0,st:=VO A.st r.1 r.2 2 [1],S:=QL A.n A.S r.1 r.2}
def VP (A:AR)(rs:List (Nat×Nat)):AR:=rs.foldl V2 A
def growStart (sp:Sp)(size:Nat):Option Nat:=((List.range (sp.st.length/size)).map (· * size)).find? λs=>s != 0&&mapE sp s size==0
def UL (st:List Nat)(a m:Nat):List Nat:=((List.range m).map (a + ·)).foldl (λl (h:Nat)=>addT l h) st
def UO (A:AR)(sp:Sp)(size:Nat):Option (AR×Sp):=match growStart sp size with
 | none=>none
 | some s=>some ({A with st:=UL A.st (s/16) (size/16),S:=QL A.n A.S s size},mapS sp s size)
def Q4 (m:Nat):Nat:=if m<=16 then 16 else if m<=32 then 32 else 64
def useA (A:AR)(x pages no:Nat):AR:={A with S:=take A.S x (x+pages),st:=VO A.st x pages 1 [2,3],ow:=setO A.ow x pages no}
def getA (A:AR)(sp:Sp)(pages align no:Nat):Option Nat×AR×Sp:=match Zu A.n A.S pages align with
 | some x=>(some x,useA A x pages no,sp)
 | none=>match UO A sp (Q4 (max pages align))with
  | none=>(none,A,sp)
  | some (A',sp')=>match Zu A'.n A'.S pages align with
   | some x=>(some x,useA A' x pages no,sp')
   | none=>(none,A',sp')
def Z6 (A:AR)(k:Int):Int:=if A.ck k then(match A.tra[k.toNat]? with
 | some t=>if t.bs=[]then 4 else 0
 | none=>5)else 1
def YL (A:AR)(k:Int):List Int:=if Z6 A k=0 then(match A.tra[k.toNat]? with
 | some t=>t.bs.getLast?.getD []
 | none=>[])else[]
def ZQ (A:AR)(k:Int):AR:=if Z6 A k=0 then{A with tra:=A.tra.modify k.toNat TrA.rem}else A
def Hj (A:AR)(k:Int)(xs:List Int):Int:=if A.ck k then(match A.tb[k.toNat]?,A.cen[k.toNat]? with
 | some c,some ss=>if xs.length=c.batch then(if xs.all (λx=>isTk c ss x==some true)then 0 else 8)else 1
 | _,_=>5)else 1
def Vi (A:AR)(k:Int)(xs:List Int):Bool:=decide (Hj A k xs=0)&&(match A.tra[k.toNat]? with
 | some t=>decide (t.bs.length<A.room)
 | none=>false)
def Q9 (A:AR)(k:Int)(xs:List Int):AR:=if Vi A k xs then{A with tra:=A.tra.modify k.toNat λt=>{t with bs:=t.bs++[xs]}}else A
def QI (A:AR)(k m:Int):Int:=if A.ck k then(if m<0 then 1 else 0)else 1
def Vs (A:AR)(k m:Int):List Nat×List SpA:=match A.tb[k.toNat]?,A.cen[k.toNat]? with
 | some c,some ss=>Q6 c m.toNat ss
 | _,_=>([],[])
def Yt (A:AR)(k m:Int):List Nat:=if QI A k m=0 then(Vs A k m).1 else[]
def YQ (A:AR)(k m:Int):AR:=if QI A k m=0 then{A with cen:=A.cen.set k.toNat (Vs A k m).2}else A
def QW (A:AR)(k:Int)(xs:List Int):Int:=if A.ck k then(match A.tb[k.toNat]?,A.cen[k.toNat]? with
 | some c,some ss=>putE c ss xs
 | _,_=>5)else 1
def Ze (A:AR)(k:Int)(xs:List Int):AR:=if QW A k xs=0 then(match A.tb[k.toNat]?,A.cen[k.toNat]? with
 | some c,some ss=>VP {A with cen:=A.cen.set k.toNat (sweep (xs.foldl (put1 c) ss))} ((Z7 (xs.foldl (put1 c) ss)).map λs=>(s,c.pages))
 | _,_=>A)else A
def KP (A:AR)(sp:Sp)(k:Int):Int:=if A.ck k then(match A.tb[k.toNat]?,A.cen[k.toNat]? with
 | some c,some ss=>(match (getA A sp c.pages 1 (k.toNat+1)).1 with
  | some x=>GR c ss x
  | none=>6)
 | _,_=>5)else 1
def growS (A:AR)(sp:Sp)(k:Int):AR×Sp:=if A.ck k then(match A.tb[k.toNat]?,A.cen[k.toNat]? with
 | some c,some ss=>(match getA A sp c.pages 1 (k.toNat+1)with
  | (some x,A',sp')=>(if GR c ss x=0 then{A' with cen:=A'.cen.set k.toNat (addS c ss x)}else A',sp')
  | (none,A',sp')=>(A',sp'))
 | _,_=>(A,sp))else(A,sp)
def Kc (m a:Int):Bool:=decide (1<=m)&&(decide (m<=64)&&(a==1||(a==2||(a==4||(a==8||a==16)))))
def Qz (A:AR)(sp:Sp)(m a:Int):Int:=if Kc m a then(if(getA A sp m.toNat a.toNat 41).1.isSome then 0 else 6)else 1
def Z5 (A:AR)(sp:Sp)(m a:Int):Nat:=if Kc m a then(getA A sp m.toNat a.toNat 41).1.getD 0 else 0
def takeAS (A:AR)(sp:Sp)(m a:Int):AR×Sp:=if Kc m a then(match getA A sp m.toNat a.toNat 41 with
 | (some x,A',sp')=>({A' with runs:=mset2 A'.runs x m.toNat},sp')
 | (none,A',sp')=>(A',sp'))else(A,sp)
where mset2 (l:List (Nat×Nat)) (x m:Nat):List (Nat×Nat):=if l.any (λr=>r.1==x)then l.map (λr=>if r.1==x then(x,m)else r)else l++[(x,m)]
def Wbl (A:AR)(x:Int):Option (Nat×Nat):=A.runs.find? λr=>(r.1:Int)==x
def KQ (A:AR)(x:Int):Int:=if(Wbl A x).isSome then 0 else 8
def QH (A:AR)(x:Int):AR:=match Wbl A x with
 | some r=>V2 {A with runs:=A.runs.filter λq=>!((q.1:Int)==x)} r
 | none=>A
def Wdk (A:AR)(p:Nat):Option (Nat×Nat):=A.runs.find? λr=>decide (r.1<=p)&&decide (p<r.1+r.2)
def UY (A:AR)(x:Int):Option (Int×Nat):=if x<0 then none else
 let p:=x.toNat/256
 let no:=if p<1024 then A.ow p else 0
 if no=0 then none else if no=41 then(Wdk A p).map λr=>(-1,r.1*256)else
 match A.tb[no-1]?,A.cen[no-1]? with
 | some c,some ss=>(Wb8 c ss x).map λa=>(((no-1:Nat):Int),a)
 | _,_=>none
def Whz (A:AR)(x:Int):Bool:=match UY A x with
 | some (k,a)=>if(a:Int)=x then(if k<0 then true else(match A.tb[k.toNat]?,A.cen[k.toNat]? with
  | some c,some ss=>isTk c ss x==some true
  | _,_=>false))else false
 | none=>false
def UN (A:AR)(p:Int):Bool:=decide (0<=p)&&decide (A.st.getD p.toNat 0≠0)
def QN (A:AR)(k:Nat):AR:=match A.tb[k]?,A.cen[k]? with
 | some c,some ss=>VP {A with cen:=A.cen.set k (sweep ss)} ((Z7 ss).map λs=>(s,c.pages))
 | _,_=>A
def YK (A:AR):AR:=(List.range A.tb.length).foldl QN A
def rel1 (p:AR×Sp)(r:Nat×Nat):AR×Sp:=({p.1 with st:=VO p.1.st r.1 r.2 3 [2]},leaveS p.2 r.1 r.2 1)
def VU (A:AR)(want:Int):List (Nat×Nat):=HA (YK A).st want
def relS (A:AR)(sp:Sp)(want:Int):AR×Sp:=if want<0 then(A,sp)else(VU A want).foldl rel1 (YK A,sp)
def relV (A:AR)(want:Int):Nat:=if want<0 then 0 else((VU A want).map (·.2)).sum
def Ve (p:AR×Sp)(h:Nat):AR×Sp:=({p.1 with st:=remT p.1.st h,S:=runS p.1.n p.1.S ((h*16:Nat):Int) 16},leaveS p.2 ((h*16:Nat):Int) 16 0)
def trimS (A:AR)(sp:Sp):AR×Sp:=(Ki A.st 0).foldl Ve (A,sp)
def WgZ (A:AR):Nat:=(Ki A.st 0).length
def Ks (A:AR)(k:Nat):AR:=match A.tra[k]? with
 | some t=>t.out.foldl (λA' xs=>Ze A' k xs) {A with tra:=A.tra.set k t.tick}
 | none=>A
def U4 (A:AR):AR:=(List.range A.tra.length).foldl Ks A
def Ub (A:AR):Nat:=((A.tb.zip A.tra).map λx=>x.2.bs.flatten.length*x.1.size).sum
def Wbd (A:AR):Nat:=((A.tb.zip A.cen).map λx=>Kr x.2*x.1.size).sum
def UA (A:AR):Nat:=((A.tb.zip A.cen).map λx=>x.2.length*x.1.tail).sum
def Uc (A:AR):Nat:=((A.tb.zip A.cen).map λx=>x.2.length*x.1.pages).sum
def Ue (A:AR):Nat:=(A.runs.map (·.2)).sum
end Go.Ar
namespace Go.Ar
open Go.Vc (mget mset mdel)
inductive Ph where
 | take (k:Nat)
 | transfer (k w:Nat)
 | central (k w:Nat)
 | grow (k w:Nat)
 | fill
 | large (m:Nat)
 | find (x:Int)
 | put (k:Nat) (x:Int)
 | back
 | give (s a:Int)
 | drain
 deriving DecidableEq
structure Th where
 ls:List Li
 hands:List Bt
 ph:Option Ph
structure Cf where
 pages:Nat
 arenas:Nat
 threads:Nat
 budget:Nat
 room:Nat
abbrev Bk:=Int×Int×Int×Int
structure Hw where
 tb:List Cls
 cf:Cf
 sp:Sp
 ars:List AR
 ths:List Th
 live:List (Int×Bk)
def YJ (ars:List AR)(x:Int):Int:=if x<0 then -1 else match ars.findIdx? (λA=>UN A (x/256))with
 | some i=>(i:Int)
 | none=>-1
def Hw.own (H:Hw)(t:Nat):Nat:=t%H.ars.length
def Hw.setT (H:Hw)(t:Nat)(f:Th->Th):Hw:={H with ths:=H.ths.modify t f}
def Hw.setA (H:Hw)(k:Nat)(A:AR):Hw:={H with ars:=H.ars.set k A}
def VF (H:Hw)(x size cls:Int):Hw:={H with live:=mset H.live x (x,size,cls,YJ H.ars x)}
def QV (H:Hw)(t k:Nat)(xs:List Int):Hw:=H.setT t λh=>{h with hands:=h.hands++[(k,xs)]}
def retH (H:Hw)(t:Nat):Option Ph:=match H.ths[t]? with
 | some h=>if h.hands=[]then none else some .back
 | none=>none
def ZW (ars:List AR)(xs:List Int)(a:Nat):List Int:=xs.filter λx=>YJ ars x==(a:Int)
def Vb (H:Hw)(k:Nat)(part:Nat->List Int)(l:List Nat):Hw:=l.foldl (λH a=>match H.ars[a]? with
 | some A=>if part a=[]then H else H.setA a (Ze A (k:Int) (part a))
 | none=>H) H
def Gh (H:Hw)(own k:Nat)(xs:List Int):Hw:=match H.ars[own]? with
 | some A=>if(ZW H.ars xs own).length=xs.length/\Vi A (k:Int) xs=true then H.setA own (Q9 A (k:Int) xs)
  else Vb (if(ZW H.ars xs own).length=xs.length then H.setA own (Q9 A (k:Int) xs)else H) k (ZW H.ars xs) (List.range H.ars.length)
 | none=>H
abbrev OutH:=Hw×Option Ph×Int×Int
def whyH (H:Hw)(x:Int):Int:=if 0<=YJ H.ars x then(match H.ars[(YJ H.ars x).toNat]? with
 | some A=>(match UY A x with
  | some (k,y)=>if 0<=k/\(y:Int)=x then 9 else 8
  | none=>8)
 | none=>8)else 8
def U8 (H:Hw)(t:Nat)(x:Int):OutH:=match mget H.live x with
 | none=>(H,none,0,whyH H x)
 | some b=>if b.2.2.1<0 then({H with live:=mdel H.live x},some (.give (x/256) b.2.2.2),0,0)
  else(QV {H with live:=mdel H.live x} t b.2.2.1.toNat [x],some (.put b.2.2.1.toNat x),0,0)
def Hw.thr (H:Hw)(t:Nat):Th:=H.ths.getD t ⟨[],[],none⟩
def Hw.cls (H:Hw)(k:Nat):Cls:=H.tb.getD k ⟨8,1,1⟩
def Hw.arn (H:Hw)(t:Nat):AR:=H.ars.getD (H.own t) ⟨0,0,[],λ_=>false,[],λ_=>0,[],[],[]⟩
def Th.li (h:Th)(k:Nat):Li:=h.ls.getD k liN
def Th.setL (h:Th)(k:Nat)(l:Li):Th:={h with ls:=h.ls.set k l}
def putH (H:Hw)(t k:Nat)(x:Int):Hw:=
 let c:=H.cls k
 let l:=(H.thr t).li k
 let H1:=H.setT t λh=>h.setL k (putL c x l).2
 let H2:=if(putL c x l).1=[]then H1 else QV H1 t k (putL c x l).1
 let H3:=H2.setT t λh=>{h with hands:=h.hands.drop 1}
 if H.cf.budget<Qt H.tb (H3.thr t).ls then H3.setT t λh=>{h with ls:=Q8 KJ H.tb h.ls,hands:=h.hands++Kb KJ H.tb h.ls}else H3
def Wt (H:Hw)(t:Nat):Ph->OutH
 | .take k=>match Ka (H.cls k) ((H.thr t).li k)with
  | (some x,l)=>(VF (H.setT t λh=>h.setL k l) x ((H.cls k).size:Int) (k:Int),none,x,0)
  | (none,l)=>(H.setT t λh=>h.setL k l,some (.transfer k (Wav (H.cls k) l)),0,0)
 | .transfer k w=>if w=(H.cls k).batch then(if Z6 (H.arn t) (k:Int)=0 then(QV (H.setA (H.own t) (ZQ (H.arn t) (k:Int))) t k (YL (H.arn t) (k:Int)),some .fill,0,0)else(H,some (.central k w),0,0))else(H,some (.central k w),0,0)
 | .central k w=>
  let H1:=H.setA (H.own t) (YQ (H.arn t) (k:Int) (w:Int))
  if Yt (H.arn t) (k:Int) (w:Int)=[]then(H1,some (.grow k w),0,0)else(QV H1 t k ((Yt (H.arn t) (k:Int) (w:Int)).map λ(x:Nat)=>(x:Int)),some .fill,0,0)
 | .grow k w=>
  let r:=growS (H.arn t) H.sp (k:Int)
  let H1:={H.setA (H.own t) r.1 with sp:=r.2}
  if KP (H.arn t) H.sp (k:Int)=0 then(H1,some (.central k w),0,0)else(H1,none,0,KP (H.arn t) H.sp (k:Int))
 | .fill=>match (H.thr t).hands with
  | (k,x::xs)::_=>(VF (H.setT t λh=>{ls:=h.ls.set k (addL xs.reverse (h.li k)),hands:=[],ph:=h.ph}) x ((H.cls k).size:Int) (k:Int),none,x,0)
  | _=>(H,none,0,0)
 | .large m=>
  let r:=takeAS (H.arn t) H.sp (m:Int) 1
  let H1:={H.setA (H.own t) r.1 with sp:=r.2}
  let x:Int:=((Z5 (H.arn t) H.sp (m:Int) 1*256:Nat):Int)
  if Qz (H.arn t) H.sp (m:Int) 1=0 then(VF H1 x ((m*256:Nat):Int) (-1),none,x,0)else(H1,none,0,Qz (H.arn t) H.sp (m:Int) 1)
 | .find x=>U8 H t x
 | .put k x=>(putH H t k x,retH (putH H t k x) t,0,0)
 | .back=>match (H.thr t).hands with
  | (k,xs)::r=>
   let H1:=Gh (H.setT t λh=>{h with hands:=r}) (H.own t) k xs
   (H1,retH H1 t,0,0)
  | []=>(H,none,0,0)
 | .give s a=>(match H.ars[a.toNat]? with
  | some A=>H.setA a.toNat (QH A s)
  | none=>H,none,0,0)
 | .drain=>
  let H1:=H.setT t λh=>{h with ls:=Q8 ZX H.tb h.ls,hands:=Kb ZX H.tb h.ls}
  (H1,retH H1 t,0,0)
end Go.Ar
namespace Go.Proofs
open Go.Vc
set_option maxRecDepth 100000
def ZG.h:Hn:=.q .o1 (.q (.q (.reg (.seq [.op,.op,.op,.op,.grd false 3 (RI.ops 3)])) .aK) (.q (.q .o3 (.k (.loop [(15,.I)] (.q .o1 (.q (.c .l .l) (.q (.k (.q .o6 (.q (.reg (.heldJ true [1] [(37,.one .b)] (.take 0 (.all [(1,.take 2 (.take 3 (.split 23 (.take 4 (.take 5 (.take 6 (.take 7 (.take 8 (.take 9 (.take 10 (.take 11 (.take 12 (.take 13 (.take 14 (.take 15 (.take 16 (.take 17 (.done))))))))))))))) (.take 4 (.take 5 (.take 6 (.split 26 (.take 7 (.take 9 (.take 10 (.take 11 (.take 12 (.take 13 (.all [(8,.all [(14,.take 15 (.take 16 (.take 17 (.done))))]),(14,.all [(8,.take 15 (.take 16 (.take 17 (.done))))])]))))))) (.take 7 (.take 8 (.take 9 (.take 10 (.take 11 (.take 12 (.take 13 (.take 14 (.take 15 (.take 16 (.take 17 (.done)))))))))))))))))))])))) .aK))) .o2)))))) .aM))
def ZG.v (a:Sl)(b:Hp)(c:aO):Prop:=JnB (λd e=>If d (c false e) (W8 [bN] (λf=>f 0 e) λg (h:Int) i=>If (h<((a.len:Nat):Int)) (Ix a.a a.len h 3 λj=>aQ j 0 i λk=>aQ j 1 i λl=>aQ j 2 i λm=>aV #[.I 0,.I 0,.I 0] 31 i λn o=>aR n 0 (.I k) o λp=>aR n 1 (.I l) p λq=>aR n 2 (.I m) q λr=>Jn [.b] (λ(s:Bool) t=>If s (c false t) (bL (h+1) λu=>g u t)) λv=>Held r λw=>aS w n 0 λx=>aS w n 1 λy=>aS w n 2 λz=>Qy.c x y z r λaa ab=>If (!aa) (v true ab) (If (h>0) (bL (h-1) λac=>Ix a.a a.len ac 3 λad=>(aQ n 0 ab λae=>aQ ad 0 ab λaf=>v (decide (ae<=af)) ab) ∧ (aQ ad 0 ab λag=>aQ n 0 ab λah=>v (decide (ah<=ag)) ab)) (v false ab))) (c true i))) λai=>If (((a.len:Nat):Int)<1) (ai true b) (ai (decide (((a.len:Nat):Int)>40)) b)
theorem ZG.o {a b c}(d:ZG.v a b c):ZG.c a b c:=Wa Tryz.func40 (x:=ZG.h) (R0 d)
def Z1.h:Hn:=.q .o4 (.q (.k (.q .o4 (.c .aL (.q (.reg (.heldJ true [] [(13,.one .b)] (.tk [0,1,2] (.split 16 (.tk [3,4,5,6,7,8,9,10,11,12,13,14,15,16] (.done)) (.tk [3,4,5,6] (.split 20 (.tk [7,8,9,10,11,12,13,14,15,16] (.done)) (.tk [7,8,9,10] (.split 24 (.tk [11,12,13,14,15,16] (.done)) (.take 11 (.take 13 (.all [(12,.take 14 (.take 15 (.take 16 (.done))))]))))))))))) .aJ)))) (.q .o4 (.q (.q .o2 .aJ) (.q .o3 .l))))
def Z1.v (a:Sl)(b c:Int)(d:Hp)(e:Int->Int->Hp->Prop):Prop:=aV #[.I b] 3 d λf g=>aV #[.I c] 3 g λh i=>ZG.c a i λj k=>If (!j) (e 0 2 k) (Jn [.b] (λ(l:Bool) m=>If l (e 0 1 m) (Wl.c a ⟨80,#[],#[.pointer (some f),.pointer (some h)]⟩ m λn o=>If (n<0) (e 0 4 o) (e n 0 o))) λp=>Held k λq=>LdH q bN f λ(r:Int)=>If (r<1) (p true k) (LdH q bN h λ(s:Int)=>If (s<1) (p true k) (LdH q bN h λ(t:Int)=>If (t>256) (p true k) (LdH q bN h λ(u:Int)=>LdH q bN h λ(v:Int)=>Qg.c u k λw x=>And (q x) <| p (w != v) x))))
theorem Z1.o {a b c d e}(f:Z1.v a b c d e):Z1.c a b c d e:=Wa Tryz.func41 (x:=Z1.h) (R0 f)
def Zd.h:Hn:=.q .o3 (.q (.q .o3 .aJ) (.q .o4 .l))
def Zd.v (a b c:Int)(d:Hp)(e:Int->Int->Hp->Prop):Prop:=aV #[.I a,.I b,.I c] 31 d λf g=>aQ f 0 g λh=>aQ f 1 g λi=>aQ f 2 g λj=>Qy.c h i j g λk l=>If (!k) (e 0 1 l) (aQ f 0 l λm=>aQ f 1 l λn=>aQ f 2 l λo=>ZI.c m n o l λp q=>e p 0 q)
theorem Zd.o {a b c d e}(f:Zd.v a b c d e):Zd.c a b c d e:=Wa Tryz.func42 (x:=Zd.h) (R0 f)
def Qo.h:Hn:=.q .o3 (.q (.q .o3 .aJ) (.q (.reg (.held true [] (.tk [0,1,2,3,5,6] (.all [(4,.tk [7,8,9,10] (.done))])))) .l))
def Qo.v (a b c:Int)(d:Hp)(e:Int->Int->Hp->Prop):Prop:=aV #[.I a,.I b,.I c] 31 d λf g=>aQ f 0 g λh=>aQ f 1 g λi=>aQ f 2 g λj=>Qy.c h i j g λk l=>If (!k) (e 0 1 l) (Held l λm=>aS m f 1 λn=>bL (n*256) λo=>aS m f 0 λp=>aS m f 1 λq=>aS m f 2 λr=>aS m f 0 λs=>ZI.c p q r l λt u=>And (m u) <| bL (t*s) λv=>bL (o-v) λw=>e w 0 u)
theorem Qo.o {a b c d e}(f:Qo.v a b c d e):Qo.c a b c d e:=Wa Tryz.func43 (x:=Qo.h) (R0 f)
def Qy.h:Hn:=.q .o2 (.q (.reg (.seq [.op,.op,.op,.op,.grd true 3 (RI.ops 3),.op,.grd true 4 (RI.ops 4),.op,.grd true 3 (RI.ops 3),.op,.grd true 3 (RI.ops 3),.op,.grd true 6 (RI.ops 6),.op,.grd true 3 (RI.ops 3),.op,.grd true 3 (RI.ops 3),.op])) .l)
def Qy.v (a b c:Int)(d:Hp)(e:aO):Prop:=aV #[.I a,.I b,.I c] 31 d λf g=>aQ f 0 g λh=>JnB (λi j=>JnB (λk l=>JnB (λm n=>JnB (λo p=>JnB (λq r=>JnB (λs t=>JnB (λu v=>e u v) λw=>If s (aQ f 2 t λx=>w (decide (x<=32)) t) (w false t)) λy=>If q (aQ f 2 r λz=>y (decide (z≥1)) r) (y false r)) λaa=>If o (aQ f 1 p λab=>bL (ab*256) λac=>aQ f 0 p λad=>aa (decide (ac≥ad)) p) (aa false p)) λae=>If m (aQ f 1 n λaf=>ae (decide (af<=4)) n) (ae false n)) λag=>If k (aQ f 1 l λah=>ag (decide (ah≥1)) l) (ag false l)) λai=>If i (aQ f 0 j λaj=>Nz 8 <| ai ((aj.tmod 8)==0) j) (ai false j)) λak=>If (h≥8) (aQ f 0 g λal=>ak (decide (al<=512)) g) (ak false g)
theorem Qy.o {a b c d e}(f:Qy.v a b c d e):Qy.c a b c d e:=Wa Tryz.func77 (x:=Qy.h) (R0 f)
def Qg.h:Hn:=.q .o1 (.q .o1 (.q (.q .o1 (.k (.loop [(3,.I),(4,.I)] (.q (.q .o3 (.c .l .l)) (.q (.k .o2) .o3))))) .aL))
def Qg.v (a:Int)(b:Hp)(c:aN):Prop:=W8 [bN,bN] (λd=>d 0 1 b) λe (f:Int) (g:Int) h=>If (g<=a) (bL (g*2) λi=>e g i h) (c f h)
theorem Qg.o {a b c}(d:Qg.v a b c):Qg.c a b c:=Wa Tryz.func78 (x:=Qg.h) (R0 d)
def ZZ.h:Hn:=.q .o2 (.q (.reg (.seq [.op,.op,.op,.op,.op,.grd true 5 (RI.ops 5),.op])) .l)
def ZZ.v (a b c:Int)(d e:Addr)(f:Hp)(g:aO):Prop:=aV #[.I a,.I b,.I c] 31 f λh i=>aQ h 0 i λj=>bM d i λk=>JnB (λl m=>g l m) λn=>If (j≥k) (aQ h 0 i λo=>bM e i λp=>Nz p <| n ((o.tmod p)==0) i) (n false i)
theorem ZZ.o {a b c d e f g}(h:ZZ.v a b c d e f g):ZZ.c a b c d e f g:=Wa Tryz.func80 (x:=ZZ.h) (R0 h)
def ZI.h:Hn:=.q .o2 (.q .o7 .l)
def ZI.v (a b c:Int)(d:Hp)(e:aN):Prop:=aV #[.I a,.I b,.I c] 31 d λf g=>aQ f 1 g λh=>bL (h*256) λi=>aQ f 0 g λj=>Nz j<|bL (i.tdiv j) λk=>e k g
theorem ZI.o {a b c d e}(f:ZI.v a b c d e):ZI.c a b c d e:=Wa Tryz.func81 (x:=ZI.h) (R0 f)
end Go.Proofs
namespace Go.Ar
open Go Go.Vc Go.Proofs
variable {σ:Hp}
theorem Wig (x y z:Int){R:aO}(hR:∀σ',Ext0 σ σ'->R (Uf x y z) σ'):Qy.c x y z σ R:=by
 refine Qy.o ?_;unfold Qy.v;refine nw (cs:=[.int .i64 x,.int .i64 y,.int .i64 z]) λh A e b=>?_;have p:Uf x y z=false->R false h:=λg=>g▸hR h e;have a:¬(8<=x/\x<=512/\x%8=0/\1<=y/\y<=4/\x<=y*256/\1<=z/\z<=32)->R false h:=λg=>p (by rw[←zCM,Hu];exact g);refine b.rI rfl (JnB.intro ?_);refine ifD (λu=>b.rI rfl (JnB.intro ?_)) λu=>?_
 case refine_2=>
  iterate 6 refine JnB.intro (ifF rfl ?_)
  exact a O
 refine ifD (λi=>b.rI rfl (nz aB (JnB.intro ?_))) λi=>?_
 case refine_2=>
  iterate 5 refine JnB.intro (ifF rfl ?_)
  exact a O
 rw[Q7 O];refine iff_ (λd=>b.rI rfl (JnB.intro ?_)) λd=>?_
 case refine_2=>
  have:¬x%8=0:=by simpa using d
  iterate 4 refine JnB.intro (ifF rfl ?_)
  exact a O
 have s:x%8=0:=by simpa using d
 refine ifD (λw=>b.rI rfl (JnB.intro ?_)) λw=>?_
 case refine_2=>
  iterate 3 refine JnB.intro (ifF rfl ?_)
  exact a O
 refine ifD (λm=>b.rI rfl (ar O O (b.rI rfl (JnB.intro ?_)))) λm=>?_
 case refine_2=>
  iterate 2 refine JnB.intro (ifF rfl ?_)
  exact a O
 refine ifD (λj=>b.rI rfl (JnB.intro ?_)) λj=>?_
 case refine_2=>exact JnB.intro (ifF rfl (a O))
 refine ifD (λr=>b.rI rfl ?_) λr=>a O;have:decide (z<=32)=Uf x y z:=by
  rw[zBD,Hu];simp;omega
 rw[this];exact hR h e
theorem Wby {c:Cls}(hc:c.ok){R:aN}(hR:∀σ',Ext0 σ σ'->R (c.n:Int) σ'):ZI.c c.size c.pages c.batch σ R:=by
 refine ZI.o ?_;unfold ZI.v;have h:=hc;unfold Cls.ok at h;refine nw (cs:=[.int .i64 c.size,.int .i64 c.pages,.int .i64 c.batch]) λh b e a=>?_;refine a.rI rfl (arN (m:=c.pages*256) aA O (a.rI rfl (nz O ?_)));refine arN (m:=c.n) ?_ (by have:=hc.n_le;omega) (hR _ e);rw[YM O];simp[Cls.n]
theorem UB (x y z:Int){R:Int->Int->Hp->Prop}(h1:∀c:Cls,c.ok->x=c.size->y=c.pages->z=c.batch->∀σ',Ext0 σ σ'->R (c.n:Int) 0 σ')(h0:Uf x y z=false->∀σ',Ext0 σ σ'->R 0 1 σ'):Zd.c x y z σ R:=by
 refine Zd.o ?_;unfold Zd.v;refine nw (cs:=[.int .i64 x,.int .i64 y,.int .i64 z]) λh p e b=>?_;refine b.rI rfl (b.rI rfl (b.rI rfl (Wig _ _ _ λj d=>?_)));have a:=d.blk b id;cases hk:Uf x y z
 ·exact ifT rfl (h0 hk _ (e.trans d))
 ·obtain⟨c,g,_,rfl,rfl,rfl⟩:=GX hk;exact ifF rfl (a.rI rfl (a.rI rfl (a.rI rfl (Wby g λm i=>h1 c g rfl rfl rfl _ ((e.trans d).trans i)))))
theorem WiD {c:Cls}(hc:c.ok){R:Int->Int->Hp->Prop}(hR:∀σ',Ext0 σ σ'->R (c.tail:Int) 0 σ'):Qo.c c.size c.pages c.batch σ R:=by
 refine Qo.o ?_;unfold Qo.v;have h:=hc;unfold Cls.ok at h;refine nw (cs:=[.int .i64 c.size,.int .i64 c.pages,.int .i64 c.batch]) λs w e g=>?_;refine g.rI rfl (g.rI rfl (g.rI rfl (Wig _ _ _ λp i=>?_)));rw[(Uh c).2 hc];have d:=i.blk g id;refine ifF rfl ?_;refine⟨λb=>Blk b σ.size [.int .i64 c.size,.int .i64 c.pages,.int .i64 c.batch],d,⟨_,λb a=>by rw[add_lit,a.cell];rfl,?_⟩⟩;refine arN (m:=c.pages*256) aA O ?_;refine⟨_,λb a=>by rw[add_lit,a.cell];rfl,⟨_,λb a=>by rw[add_lit,a.cell];rfl,⟨_,λb a=>by rw[add_lit,a.cell];rfl,⟨_,λb a=>by rw[add_lit,a.cell];rfl,?_⟩⟩⟩⟩;refine Wby hc λr j=>⟨j.blk d id,?_⟩;have u:=c.n_mul;refine arN (m:=c.n*c.size) aA O (arN (m:=c.tail) (by unfold Cls.tail;omega) (by unfold Cls.tail;omega) (hR _ ((e.trans i).trans j)))
end Go.Ar
namespace Go.Proofs
open Go.Vc
set_option maxRecDepth 100000
def X9.h:Hn:=.q .o1 (.q (.q (.reg (.seq [.op,.op,.op,.op,.grd false 2 [.op,.op],.op,.grd false 7 (RI.ops 7)])) .aK) (.q .o8 .l))
def X9.v (a:R2)(b:Int)(c:Hp)(d:aN):Prop:=WW.c a c λe f=>JnB (λg h=>JnB (λi j=>If i (d (-1) j) (bE a 0 j λl=>Ix l.a l.len b 1 λm=>bM m j λn=>d n j)) λo=>If g (o true h) (bE a 0 h λq=>o (decide (b≥((q.len:Nat):Int))) h)) λr=>If (!e) (r true f) (r (decide (b<0)) f)
theorem X9.o {a b c d}(e:X9.v a b c d):X9.c a b c d:=Wa Tryz.func143 (x:=X9.h) (R0 e)
def WW.h:Hn:=.q .o1 (.q (.reg (.seq [.op,.op,.op,.grd true 6 (RI.ops 6),.op])) .l)
def WW.v (a:R2)(b:Hp)(c:aO):Prop:=JnB (λd e=>c d e) λf=>If (!a.isNone) (bE a 0 b λh=>f (decide (((h.len:Nat):Int)>0)) b) (f false b)
theorem WW.o {a b c}(d:WW.v a b c):WW.c a b c:=Wa Tryz.func149 (x:=WW.h) (R0 d)
def Kw.h:Hn:=.q .o2 (.q (.q (.reg (.seq [.op,.op,.op,.grd false 2 [.op,.op],.op,.grd false 3 (RI.ops 3)])) .aJ) (.q .o6 .l))
def Kw.v (a:Int)(b:Hp)(c:Option Addr->Int->Hp->Prop):Prop:=JnB (λd e=>JnB (λf g=>If f (c none 1 g) (Mk a a 8 3 [.I 0] g λh i=>aV #[.slice h.a h.len h.cap] 231 i λj k=>c (some j) 0 k)) λl=>If d (l true e) (Nz 16 <| l ((a.tmod 16) != 0) e)) λm=>If (a<16) (m true b) (m (decide (a>1024)) b)
theorem Kw.o {a b c}(d:Kw.v a b c):Kw.c a b c:=Wa Tryz.func155 (x:=Kw.h) (R0 d)
def Yw.h:Hn:=.q .o3 (.scope (.q (.k (.q .o4 (.c .aL (.q .o3 .aJ)))) (.q .o1 (.q (.q .o3 (.k (.loop [(6,.one .s),(23,.I)] (.q .o1 (.q (.c .l .l) (.q (.k (.q .o2 (.q .o5 (.c .o5 .l)))) .o2)))))) (.q .o3 (.q .o1 (.q .o1 (.q .l (.q (.q .o3 (.k (.loop [(8,.one .s),(9,.I),(41,.I)] (.q .o1 (.q (.c .l .l) (.q (.k (.q .o3 (.q .o1 (.k (.loop [(8,.one .s),(9,.I),(12,.I)] (.q (.q .o2 (.c .l .l)) (.q (.k (.q (.q .o3 (.c .l .l)) (.q .o1 (.q (.k (.loop [(13,.I)] (.q (.q (.reg (.seq [.op,.op,.op,.op,.op,.grd true 9 (RI.ops 9)])) (.c .l .l)) (.k .o3)))) (.q .o2 (.c (.q .o10 (.q .o4 .o4)) .l)))))) .o3))))))) .o2)))))) (.q .o3 .l))))))))))
def Yw.v (a:R2)(b:Int)(c:Hp)(d:Sl->Int->Hp->Prop):Prop:=aV #[.pointer a] 172 c λe f=>LdP e f λg=>WW.c g f λh i=>If (!h) (d ⟨none,0,0⟩ 5 i) (If (b<0) (d ⟨none,0,0⟩ 1 i) (LdP e i λj=>XP.c j i λk l=>W8 [.s,bN] (λm=>m ⟨none,0,0⟩ 0 l) λn (o:Sl) (p:Int) q=>If (p<k) (LdP e q λr=>Xm.c r p q λs t=>ZK.c s 2 t λu v=>If (u>0) (aV #[.I p] 3 v λw x=>App o 1 8 3 [.I 0] ⟨some w,1,1⟩ x λy z=>bL (p+1) λaa=>n y aa z) (bL (p+1) λab=>n o ab v)) (WL.c o ⟨233,#[],#[.pointer (some e)]⟩ q λac=>W8 [.s,bN,bN] (λad=>ad ⟨none,0,0⟩ 0 0 ac) λae (af:Sl) (ag:Int) (ah:Int) ai=>If (ah<((o.len:Nat):Int)) (Ix o.a o.len ah 1 λaj=>bM aj ai λak=>W8 [.s,bN,bN] (λal=>al af ag 0 ai) λam (an:Sl) (ao:Int) (ap:Int) aq=>If (ap<16) (If (ao≥b) (d an 0 aq) (W8 [bN] (λar=>ar 0 aq) λau (av:Int) aw=>bL (ap+av) λax=>JnB (λay az=>If ay (bL (av+1) λa0=>au a0 az) (If (av>0) (bL (ak*16) λa1=>bL (a1+ap) λa2=>aV #[.I a2,.I av] 92 az λa3 a4=>App an 2 16 92 [.I 0,.I 0] ⟨some a3,1,1⟩ a4 λa5 a6=>bL (ao+av) λa7=>bL (ap+av) λa8=>bL (a8+1) λa9=>am a5 a7 a9 a6) (bL (ap+1) λba=>am an ao ba az))) λbb=>If (ax<16) (LdP e aw λbc=>Xm.c bc ak aw λbd be=>bL (ap+av) λbf=>Ix bd.a bd.len bf 1 λbg=>bM bg be λbh=>bb (bh==2) be) (bb false aw))) (bL (ah+1) λbi=>ae an ao bi aq)) (d af 0 ai))))
theorem Yw.o {a b c d}(e:Yw.v a b c d):Yw.c a b c d:=Wa Tryz.func191 (x:=Yw.h) (R0 e)
def Xb.h:Hn:=.q .o1 (.q .o6 .l)
def Xb.v (a:R2)(b c:Int)(d:Hp)(e:aN):Prop:=aV #[.I 2] 3 d λf g=>Xq.c a b c 3 ⟨some f,1,1⟩ g λh i=>e h i
theorem Xb.o {a b c d e}(f:Xb.v a b c d e):Xb.c a b c d e:=Wa Tryz.func192 (x:=Xb.h) (R0 f)
def YD.h:Hn:=.q .o1 (.q .o3 .l)
def YD.v (a:R2)(b:Hp)(c:Sl->Hp->Prop):Prop:=X5.c a 0 b λd e=>c d e
theorem YD.o {a b c}(d:YD.v a b c):YD.c a b c:=Wa Tryz.func194 (x:=YD.h) (R0 d)
def Xo.h:Hn:=.q .o1 (.q .o8 (.q (.k (.q .o3 (.c .aL (.q .o4 .aK)))) (.q .o2 .aM)))
def Xo.v (a:R2)(b:Int)(c:Hp)(d:aN):Prop:=X1.c a b c λe f g=>If (f != 0) (d f g) (QZ.c e g λh i=>If (!h) (d 5 i) (Qp.c e 0 i λj=>d 0 j))
theorem Xo.o {a b c d}(e:Xo.v a b c d):Xo.c a b c d:=Wa Tryz.func195 (x:=Xo.h) (R0 e)
def XF.h:Hn:=.q .o1 (.q .o6 .l)
def XF.v (a:R2)(b c:Int)(d:Hp)(e:aN):Prop:=aV #[.I 1] 3 d λf g=>Xq.c a b c 2 ⟨some f,1,1⟩ g λh i=>e h i
theorem XF.o {a b c d e}(f:XF.v a b c d e):XF.c a b c d e:=Wa Tryz.func225 (x:=XF.h) (R0 f)
def XP.h:Hn:=.q .o1 (.q .o7 .l)
def XP.v (a:R2)(b:Hp)(c:aN):Prop:=bE a 0 b λe=>Nz 16<|bL (((e.len:Nat):Int).tdiv 16) λf=>c f b
theorem XP.o {a b c}(d:XP.v a b c):XP.c a b c:=Wa Tryz.func229 (x:=XP.h) (R0 d)
def ZK.h:Hn:=.q .o1 (.q .o1 (.q (.q .o3 (.k (.loop [(5,.I),(10,.I)] (.q .o1 (.q (.c .l .l) (.q (.k (.q .o3 (.q .o3 (.c .o3 .l)))) .o2)))))) .aL))
def ZK.v (a:Sl)(b:Int)(c:Hp)(d:aN):Prop:=W8 [bN,bN] (λe=>e 0 0 c) λf (g:Int) (h:Int) i=>If (h<((a.len:Nat):Int)) (Ix a.a a.len h 1 λj=>bM j i λk=>If (k==b) (bL (g+1) λl=>bL (h+1) λm=>f l m i) (bL (h+1) λn=>f g n i)) (d g i)
theorem ZK.o {a b c d}(e:ZK.v a b c d):ZK.c a b c d:=Wa Tryz.func230 (x:=ZK.h) (R0 e)
def Xm.h:Hn:=.q .o1 (.q (.o 11) .l)
def Xm.v (a:R2)(b:Int)(c:Hp)(d:Sl->Hp->Prop):Prop:=bE a 0 c λf=>bL (b*16) λg=>bL (b+1) λh=>bL (h*16) λi=>SlcL f 1 g i (f.cap:Nat) λj=>d j c
theorem Xm.o {a b c d}(e:Xm.v a b c d):Xm.c a b c d:=Wa Tryz.func231 (x:=Xm.h) (R0 e)
def XN.h:Hn:=.q .o1 (.q (.reg (.held true [] (.tk [0,1,3,4] (.all [(2,.all [(5,.take 6 (.take 7 (.done)))])])))) (.q (.q .o6 (.q .o2 .aJ)) (.q (.q .o6 (.q .o2 .aJ)) (.q .o4 .l))))
def XN.v (a b:Int)(c:Addr)(d:Hp)(e:aN):Prop:=Held d λf=>LdH f .p c λ(g:R2)=>LdH f .p c λ(h:R2)=>Xm.c g a d λi j=>And (f j) <| Xm.c h b j λk l=>And (f l) <| Qx.c i l λm n=>Qx.c k n λo p=>bL (m-o) λq=>If (q != 0) (e q p) (ZK.c i 1 p λr s=>ZK.c k 1 s λt u=>bL (r-t) λv=>If (v != 0) (e v u) (bL (b-a) λw=>e w u))
theorem XN.o {a b c d e}(f:XN.v a b c d e):XN.c a b c d e:=Wa Tryz.func233 (x:=XN.h) (R0 f)
def Qx.h:Hn:=.q .o1 (.q (.k (.q .o4 (.c .aM (.q .o4 .aK)))) .aM)
def Qx.v (a:Sl)(b:Hp)(c:aN):Prop:=ZK.c a 1 b λd e=>If (d==0) (c 0 e) (ZK.c a 3 e λf g=>If (f>0) (c 1 g) (c 2 g))
theorem Qx.o {a b c}(d:Qx.v a b c):Qx.c a b c:=Wa Tryz.func234 (x:=Qx.h) (R0 d)
def Xq.h:Hn:=.q .o2 (.q (.k (.q .o4 (.c .aM (.q (.reg (.seq [.op,.op,.op,.grd false 2 [.op,.op],.op,.grd false 7 (RI.ops 7),.op,.grd false 9 (RI.ops 9),.op])) .aK)))) (.q .o10 (.q (.q .o3 .aK) (.q .o3 .aM))))
def Xq.v (a:R2)(b c d:Int)(e:Sl)(f:Hp)(g:aN):Prop:=aV #[.slice e.a e.len e.cap] 69 f λh i=>WW.c a i λj k=>If (!j) (g 5 k) (JnB (λl m=>JnB (λn o=>JnB (λp q=>If p (g 1 q) (bE a 0 q λs=>bL (b+c) λt=>SlcL s 1 b t (s.cap:Nat) λu=>Wx.c u ⟨269,#[],#[.pointer (some h)]⟩ q λv w=>If v (g 5 w) (Qp.c u d w λx=>g 0 x))) λy=>If n (y true o) (bE a 0 o λaa=>bL (((aa.len:Nat):Int)-b) λab=>y (decide (c>ab)) o)) λac=>If l (ac true m) (bE a 0 m λae=>ac (decide (b>((ae.len:Nat):Int))) m)) λaf=>If (b<0) (af true k) (af (decide (c<1)) k))
theorem Xq.o {a b c d e f g}(h:Xq.v a b c d e f g):Xq.c a b c d e f g:=Wa Tryz.func235 (x:=Xq.h) (R0 h)
def X5.h:Hn:=.q .o1 (.q (.q .o3 .aK) (.q .o1 (.q (.q .o3 (.k (.loop [(5,.one .s),(13,.I)] (.q .o1 (.q (.c .l .l) (.q (.k (.q .o2 (.q .o4 (.q (.reg (.seq [.op,.op,.op,.op,.op,.grd true 4 (RI.ops 4)])) (.c .o5 .l))))) .o2)))))) .aL)))
def X5.v (a:R2)(b:Int)(c:Hp)(d:Sl->Hp->Prop):Prop:=WW.c a c λe f=>If (!e) (d ⟨none,0,0⟩ f) (XP.c a f λg h=>W8 [.s,bN] (λi=>i ⟨none,0,0⟩ 0 h) λj (k:Sl) (l:Int) m=>If (l<g) (Xm.c a l m λn o=>Ix n.a n.len 0 1 λp=>bM p o λq=>JnB (λr s=>If r (aV #[.I l] 3 s λt u=>App k 1 8 3 [.I 0] ⟨some t,1,1⟩ u λv w=>bL (l+1) λx=>j v x w) (bL (l+1) λy=>j k y s)) λz=>If (q != 0) (Qx.c n o λaa ab=>z (aa==b) ab) (z false o)) (d k m))
theorem X5.o {a b c d}(e:X5.v a b c d):X5.c a b c d:=Wa Tryz.func237 (x:=X5.h) (R0 e)
def X1.h:Hn:=.q .o2 (.q (.k (.q .o4 (.c .aL (.q (.reg (.seq [.op,.op,.op,.grd false 4 (RI.ops 4),.op])) .aJ)))) (.q .o5 .l))
def X1.v (a:R2)(b:Int)(c:Hp)(d:Sl->Int->Hp->Prop):Prop:=WW.c a c λe f=>If (!e) (d ⟨none,0,0⟩ 5 f) (JnB (λg h=>If g (d ⟨none,0,0⟩ 1 h) (Xm.c a b h λi j=>d i 0 j)) λk=>If (b<0) (k true f) (XP.c a f λl m=>k (decide (b≥l)) m))
theorem X1.o {a b c d}(e:X1.v a b c d):X1.c a b c d:=Wa Tryz.func238 (x:=X1.h) (R0 e)
def QZ.h:Hn:=.q .o1 (.q (.reg (.seq [.op,.op,.op,.op,.op,.grd true 3 (RI.ops 3),.op])) .l)
def QZ.v (a:Sl)(b:Hp)(c:aO):Prop:=Ix a.a a.len 0 1 λd=>bM d b λe=>JnB (λf g=>c f g) λh=>If (e != 0) (ZK.c a 1 b λi j=>h (i==0) j) (h false b)
theorem QZ.o {a b c}(d:QZ.v a b c):QZ.c a b c:=Wa Tryz.func239 (x:=QZ.h) (R0 d)
def Qp.h:Hn:=.q .o3 (.k (.loop [(7,.I)] (.q .o1 (.q (.c .l .l) (.q (.k (.q .o2 .o5)) .o2)))))
def Qp.v (a:Sl)(b:Int)(c:Hp)(d:aP):Prop:=W8 [bN] (λe=>e 0 c) λf (g:Int) h=>If (g<((a.len:Nat):Int)) (Ix a.a a.len g 1 λi=>St1 i (.I b) h λj=>bL (g+1) λk=>f k j) (d h)
theorem Qp.o {a b c d}(e:Qp.v a b c d):Qp.c a b c d:=Wa Tryz.func240 (x:=Qp.h) (R0 e)
def XO.h:Hn:=.q .o1 (.q .o6 .l)
def XO.v (a:R2)(b c:Int)(d:Hp)(e:aN):Prop:=aV #[.I 2,.I 3] 3 d λf g=>Xq.c a b c 1 ⟨some f,2,2⟩ g λh i=>e h i
theorem XO.o {a b c d e}(f:XO.v a b c d e):XO.c a b c d e:=Wa Tryz.func254 (x:=XO.h) (R0 f)
def YI.h:Hn:=.q .o1 (.q .o5 .l)
def YI.v (a:Int)(b:Addr)(c:Hp)(d:aO):Prop:=LdS b c λe=>Wo.c e a c λf g=>d (!f) g
theorem YI.o {a b c d}(e:YI.v a b c d):YI.c a b c d:=Wa Tryz.func269 (x:=YI.h) (R0 e)
def Yn.h:Hn:=.q .o1 (.q .o8 (.q (.k (.q .o3 (.c .aL (.q .o5 .aK)))) (.q .o2 .aM)))
def Yn.v (a:R2)(b:Int)(c:Hp)(d:aN):Prop:=X1.c a b c λe f g=>If (f != 0) (d f g) (Ix e.a e.len 0 1 λh=>bM h g λi=>If (i != 0) (d 5 g) (Qp.c e 3 g λj=>d 0 j))
theorem Yn.o {a b c d}(e:Yn.v a b c d):Yn.c a b c d:=Wa Tryz.func281 (x:=Yn.h) (R0 e)
end Go.Proofs