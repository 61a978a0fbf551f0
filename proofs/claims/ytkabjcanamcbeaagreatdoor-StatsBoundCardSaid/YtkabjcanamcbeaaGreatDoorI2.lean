/- Texts joined. -/
import Derived.Deep.Slices
import Derived.Deep.Fields
import Derived.ChangeSame
import Derived.Lib.SmallJoins
import Derived.Below
import Derived.Test.YtkabjcanamcbeaaGreatDoorProg
import Derived.KernelRfl
import Derived.Shelf.SlIterI.Nil
import Derived.Shelf.SortM.Plain
import Derived.Shelf.SortM.SortNone
import Derived.Ground.GgzProg
import Derived.Ground.SlgmProg
import Derived.Shelf.SlMaps.Clone
import Derived.Ground.SlmcProg
import Derived.Test.YtkabjcanamcbeaaGreatDoorI1
set_option linter.unusedVariables false
set_option linter.unusedSimpArgs false
namespace Go.Vc
open Go
abbrev Rg:=Nat->Prop
def Lcl (P:Hp->Rg->Prop):Prop:=∀σ σ' (F G:Rg),P σ F->σ.size<=σ'.size->(∀b,b<σ.size->F b->G b/\σ'[b]?=σ[b]?)->P σ' G
def Grow (F:Rg)(σ:Hp):Rg:=λb=>F b\/σ.size<=b
theorem Lcl.mono {P:Hp->Rg->Prop}(hl:Lcl P){σ:Hp}{F G:Rg}(h:P σ F)(hs:∀b,b<σ.size->F b->G b):P σ G:=hl σ σ F G h (zD _) λb hb hf=>⟨hs b hb hf,rfl⟩
theorem Lcl.keep {P:Hp->Rg->Prop}(hl:Lcl P){σ σ':Hp}{F T:Rg}(h:P σ F)(e:Ext T σ σ')(hn:∀b,b<σ.size->F b->¬T b):P σ' F:=
 hl σ σ' F F h e.1 λb hb hf=>⟨hf,e.2 b hb (hn b hb hf)⟩
theorem Lcl.keep0 {P:Hp->Rg->Prop}(hl:Lcl P){σ σ':Hp}{F:Rg}(h:P σ F)(e:Ext0 σ σ'):P σ' F:=hl.keep h e λ_ _ _=>id
def Sep {L:Type}(C:L->Hp->Rg->Prop)(σ:Hp)(F:Rg):Prop:=∃ρ:Nat->L,∀i,C i σ λb=>F b/\ρ b=i
variable {L:Type}{C:L->Hp->Rg->Prop}{σ σ':Hp}{F:Rg}
theorem Sep.loc (hC:∀i,Lcl (C i)):Lcl (Sep C):=by
 rintro σ σ' F G ⟨ρ,h⟩ hz hs;exact⟨ρ,λi=>hC i _ _ _ _ (h i) hz λb hb hf=>⟨⟨(hs b hb hf.1).1,hf.2⟩,(hs b hb hf.1).2⟩⟩
theorem Sep.get (h:Sep C σ F)(i:L):∃G:Rg,(∀b,G b->F b)/\C i σ G:=by
 obtain⟨ρ,h⟩:=h;exact⟨_,λb hb=>hb.1,h i⟩
open Classical in
theorem Sep.step (hC:∀i,Lcl (C i))(h:Sep C σ F)(i:L):∃G:Rg,(∀b,G b->F b)/\C i σ G/\∀(σ':Hp) (C':L->Hp->Rg->Prop) (G':Rg),
 (∀j,j≠i->C' j=C j)->Ext G σ σ'->(∀b,G' b->G b\/σ.size<=b)->C' i σ' G'->Lcl (C' i)->Sep C' σ' λb=>F b/\b<σ.size/\¬G b\/G' b:=by
 obtain⟨ρ,h⟩:=h;refine⟨_,λb hb=>hb.1,h i,λσ' C' G' hj e hg hi hL=>⟨λb=>if G' b then i else ρ b,λj=>?_⟩⟩
 by_cases hji:j=i
 ·subst hji;exact hL.mono hi λb _ hb=>⟨.inr hb,zB hb⟩
 ·rw[hj j hji];refine hC j _ _ _ _ (h j) e.1 λb hb hf=>?_;have hnG:¬(F b/\ρ b=i):=λhx=>hji (hf.2.symm.trans hx.2);have hnG':¬G' b:=λhx=>by
   rcases hg b hx with h1|h1
   ·exact hnG h1
   ·omega
  exact⟨⟨.inl ⟨hf.1,hb,hnG⟩,(zA hnG').trans hf.2⟩,e.2 b hb hnG⟩
open Classical in
theorem Sep.step2 (hC:∀i,Lcl (C i))(h:Sep C σ F)(i j:L)(hij:i≠j):∃G H:Rg,(∀b,G b->F b)/\(∀b,H b->F b)/\(∀b,G b->¬H b)/\C i σ G/\C j σ H/\∀(σ':Hp) (C':L->Hp->Rg->Prop) (G' H':Rg),
 (∀k,k≠i->k≠j->C' k=C k)->Ext (λb=>G b\/H b) σ σ'->(∀b,G' b->(G b\/H b)\/σ.size<=b)->(∀b,H' b->(G b\/H b)\/σ.size<=b)->(∀b,G' b->¬H' b)->C' i σ' G'->C' j σ' H'->(∀k,Lcl (C' k)) →
 Sep C' σ' λb=>F b/\b<σ.size/\¬(G b\/H b)\/G' b\/H' b:=by
 obtain⟨ρ,h⟩:=h;refine⟨_,_,λb hb=>hb.1,λb hb=>hb.1,λb h1 h2=>hij (h1.2.symm.trans h2.2),h i,h j,λσ' C' G' H' hk e hg hh hd hi hj hL=>⟨λb=>if G' b then i else if H' b then j else ρ b,λk=>?_⟩⟩
 by_cases hki:k=i
 ·subst hki;exact(hL _).mono hi λb _ hb=>⟨.inr (.inl hb),zB hb⟩
 by_cases hkj:k=j
 ·subst hkj;exact(hL _).mono hj λb _ hb=>⟨.inr (.inr hb),by show(if G' b then i else if H' b then k else ρ b)=k;rw[zA λhx=>hd b hx hb,zB hb]⟩
 ·rw[hk k hki hkj];refine hC k _ _ _ _ (h k) e.1 λb hb hf=>?_;have hn:¬((F b/\ρ b=i)\/F b/\ρ b=j):=by
   rintro(hx|hx)
   ·exact hki (hf.2.symm.trans hx.2)
   ·exact hkj (hf.2.symm.trans hx.2)
  have hnG':¬G' b:=λhx=>by
   rcases hg b hx with h1|h1
   ·exact hn h1
   ·omega
  have hnH':¬H' b:=λhx=>by
   rcases hh b hx with h1|h1
   ·exact hn h1
   ·omega
  exact⟨⟨.inl ⟨hf.1,hb,hn⟩,by show(if G' b then i else if H' b then j else ρ b)=k;rw[zA hnG',zA hnH'];exact hf.2⟩,e.2 b hb hn⟩
def BlkR (p:Nat)(cs:List Value):Hp->Rg->Prop:=λσ F=>F p/\Blk σ p cs
theorem BlkR.loc (p:Nat)(cs:List Value):Lcl (BlkR p cs):=λσ σ' F G h hz hs=>by
 obtain⟨e,he⟩:=h.2;have:=hs p h.2.lt h.1;exact⟨this.1,e,this.2.trans he⟩
def MapR (r:Nat)(k:IntKind)(c:CK)(l:List (Int×c.T)):Hp->Rg->Prop:=λσ F=>F r/\MapL σ r k c l
theorem MapR.loc (r:Nat)(k:IntKind)(c:CK)(l:List (Int×c.T)):Lcl (MapR r k c l):=λσ σ' F G h hz hs=>by
 have:=hs r h.2.lt h.1;obtain⟨es,clk,hr,rest⟩:=h.2;exact⟨this.1,es,clk,this.2.trans hr,rest⟩
def WhY:Hp->Rg->Prop:=λ_ _=>True
theorem WhY.loc:Lcl WhY:=λ_ _ _ _ _ _ _=>trivial
def OwnR (s:Sl)(sz:Nat)(xs:List Value):Hp->Rg->Prop:=λσ F=>Own F σ s sz xs
theorem OwnR.loc (s:Sl)(sz:Nat)(xs:List Value):Lcl (OwnR s sz xs):=λσ σ' F G h hz hs=>by
 refine⟨h.1,h.2.imp id ?_⟩;rintro⟨b,cs,hq,ha,⟨e,he⟩,r⟩;have:=hs b (Blk.lt ⟨e,he⟩) hq;exact⟨b,cs,this.1,ha,⟨e,this.2.trans he⟩,r⟩
def RowR (s:Sl)(sz:Nat)(xs:List Value):Hp->Rg->Prop:=λh F=>xs.length=s.len*sz/\(s.len=0/\s.cap=0\/∃b cs,F b/\s.a=some ⟨b,0,none⟩/\Blk h b cs/\s.len<=s.cap/\cs.length=s.cap*sz/\cs.take xs.length=xs)
theorem RowR.loc (s:Sl)(sz:Nat)(xs:List Value):Lcl (RowR s sz xs):=λσ σ' F G h hz hs=>by
 refine⟨h.1,h.2.imp id ?_⟩;rintro⟨b,cs,hq,ha,⟨e,he⟩,r⟩;have:=hs b (Blk.lt ⟨e,he⟩) hq;exact⟨b,cs,this.1,ha,⟨e,this.2.trans he⟩,r⟩
theorem RowR.nil (h:Hp)(F:Rg)(sz:Nat)(a:Option Addr):RowR ⟨a,0,0⟩ sz [] h F:=⟨by simp,.inl ⟨rfl,rfl⟩⟩
theorem RowR.rd {h:Hp}{F:Rg}{s:Sl}{sz:Nat}{xs:List Value}(ho:RowR s sz xs h F):Rd h s.a xs:=by
 rcases ho.2 with⟨hl,_⟩|⟨b,cs,_,ha,hb,_,_,ht⟩
 ·have:=ho.1;rw[hl]at this;simp at this;subst this;cases s.a<;>simp[Rd]
 ·rw[ha];intro j v hv;rw[add_lit,hb.cell,zG];rw[←ht,zg]at hv;split at hv
  ·exact hv
  ·cases hv
theorem RowR.app {F:Rg}{h:Hp}{s x:Sl}{sz bytes e:Nat}{zs xs ys:List Value}{K:Sl->Hp->Prop}(ho:RowR s sz xs h F)(hz:zs.length=sz)
 (hy:ys.length=x.len*sz) (hr:Rd h x.a ys) (h1:∀v∈ys,one1 v=true) (hb:(s.len+x.len)*bytes<=2^46) (hc:s.len+x.len<=2^62)
 (hx:0<x.len) (hK:∀s' h',s'.len=s.len+x.len->Ext F h h'->RowR s' sz (xs++ys) h' (Grow F h)->K s' h'):App s sz bytes e zs x h K:=by
 refine⟨xs,ys,ho.1,hy,ho.rd,hr,h1,hb,hc,λhin=>?_,λhout c hcc=>?_⟩
 ·rcases ho.2 with⟨hl,hcap⟩|⟨b,cs,hQ,ha,hk,hle,hcl,ht⟩
  ·omega
  ·rw[ha];simp only;rw[add_lit];have hm:(s.len+x.len)*sz<=s.cap*sz:=zAG _ hin;rw[zc]at hm;have hxl:=ho.1;refine KE hk (by omega) λh' ho' hb'=>hK _ h' rfl (Ext.of_only ho' hQ) ⟨?_,.inr ⟨b,_,.inl hQ,rfl,hb',hin,?_,?_⟩⟩
   ·simp[hxl,hy,zc]
   ·simp;omega
   ·rw[zJ,hxl];rw[zG,zt,←hxl];rw[ht,zBM (by simp),zAZ (by simp)]
 ·refine hK _ _ rfl (Ext.push _ _ _) ⟨by simp[ho.1,hy,zc],.inr ⟨h.size,xs++ys++(List.replicate (c-(s.len+x.len)) zs).flatten,.inr (zD _),rfl,⟨e,by simp⟩,hcc,?_,?_⟩⟩
  ·simp only[zJ,zDL,zCX,zDM,ho.1,hy,hz,←zc]
   congr 1;omega
  ·rw[zBM (by simp),zAZ (by simp)]
theorem RowR.st {F:Rg}{h:Hp}{s:Sl}{sz:Nat}{xs:List Value}(ho:RowR s sz xs h F){j:Nat}(hj:j<xs.length){v:Value}{K:Hp->Prop}{a:Addr}(ha:∀b,s.a=some ⟨b,0,none⟩->a=⟨b,j,none⟩)
 (hK:∀h',Ext F h h'->RowR s sz (xs.set j v) h' F->K h'):St1 a v h K:=by
 rcases ho.2 with⟨hl,_⟩|⟨b,cs,hq,hsa,hb,hle,hcl,ht⟩
 ·have:=ho.1;rw[hl]at this;simp at this;subst this;simp at hj
 ·rw[ha b hsa];have hjc:j<cs.length:=by
   have:(cs.take xs.length).length=xs.length:=by rw[ht]
   rw[zY]at this;omega
  refine⟨by rw[hb.cell,gGe hjc];rfl,hb.frz,hK _ (Ext.setc (F:=F) hq) ⟨by simp[ho.1],.inr ⟨b,_,hq,hsa,hb.set v,hle,by simp[hcl],?_⟩⟩⟩;rw[zBQ,List.take_set,ht]
def SlR (s:Sl)(sz:Nat)(xs:List Value):Hp->Rg->Prop:=λσ F=>xs.length=s.len*sz/\(xs=[]\/∃b o cs,F b/\s.a=some ⟨b,o,none⟩/\BlkQ σ b cs/\∀j,j<xs.length->cs[o+j]?=xs[j]?)
theorem SlR.loc (s:Sl)(sz:Nat)(xs:List Value):Lcl (SlR s sz xs):=λσ σ' F G h hz hs=>by
 refine⟨h.1,h.2.imp id ?_⟩;rintro⟨b,o,cs,hq,ha,⟨e,z,he⟩,r⟩;have:=hs b (BlkQ.lt ⟨e,z,he⟩) hq;exact⟨b,o,cs,this.1,ha,⟨e,z,this.2.trans he⟩,r⟩
theorem RowR.slR {Q:Rg}{h:Hp}{s:Sl}{sz:Nat}{xs:List Value}(ho:RowR s sz xs h Q):SlR s sz xs h Q:=by
 refine⟨ho.1,?_⟩;rcases ho.2 with⟨hl,_⟩|⟨b,cs,hq,ha,hb,_,_,ht⟩
 ·left;have:=ho.1;rw[hl]at this;simpa using this
 ·refine .inr ⟨b,0,cs,hq,ha,hb.q,λj hj=>?_⟩;rw[←ht,zg,zG,zB hj]
theorem SlR.cell {s:Sl}{sz:Nat}{xs:List Value}(h:SlR s sz xs σ F){j:Nat}{v:Value}(hv:xs[j]?=some v):∃b o,s.a=some ⟨b,o,none⟩/\Vc.cell σ ⟨b,o+j,none⟩=some v:=by
 have hj:=(gSi.1 hv).1;rcases h.2 with h0|⟨b,o,cs,_,ha,hb,hc⟩
 ·subst h0;simp at hj
 ·exact⟨b,o,ha,by rw[hb.cell,hc j hj];exact hv⟩
theorem SlR.ixI {s:Sl}{k:IntKind}{xs:List Int}(h:SlR s 1 (xs.map (Value.int k)) σ F){i:Nat}{x:Int}(hx:xs[i]?=some x){K:Int->Prop}(hK:K x):Ix s.a s.len (i:Int) 1 λa=>LdI k a σ K:=by
 have hi:=(gSi.1 hx).1;obtain⟨b,o,ha,hc⟩:=h.cell (j:=i) (v:=.int k x) (by simp[hx]);have hl:=h.1;simp at hl;rw[ha];refine ix (by omega) (by omega) ?_;rw[add_lit];exact ldI (by simpa using hc) hK
theorem SlR.rd {s:Sl}{sz:Nat}{xs:List Value}(h:SlR s sz xs σ F):Rd σ s.a xs:=by
 cases ha:s.a with
 | none=>
  rcases h.2 with h0|⟨b,o,cs,_,ha',_⟩
  ·exact h0
  ·rw[ha]at ha';cases ha'
 | some a=>
  intro j v hv;obtain⟨b,o,ha',hc⟩:=h.cell hv;rw[ha]at ha';cases ha';rw[add_lit];exact hc
end Go.Vc
namespace Go.Vc
open Go Go.ChangeShapes Go.WideShapes Go.Deep Go.RowKit
def Yes (σ:Hp):Bool->Hp->Prop:=λb σ'=>b=true/\Ext0 σ σ'
theorem WhF {P:Program}{f:Nat}{args:Array Value}{w:World}(h:Wi P f args [.one .b] w.heap (Yes w.heap)):Calls P f args w λe w'=>e=.returned (.bool true)/\Below w.heap.size w w':=by
 refine(h w rfl).mono ?_;rintro e w' ⟨io,vs,rfl,hs⟩
 match vs,hs with
 | [v],hs=>
  obtain⟨x,rfl,hx,he⟩:=hs;have hx':x=true:=hx;subst hx';exact⟨rfl,⟨io.1,io.2.1,io.2.2.1,io.2.2.2,λk hk=>he.2 k hk id⟩⟩
def Acts (h:Hp)(l:Sl)(xs:List (Int×Int×Int)):Prop:=l.len=xs.length/\∀i x y z,xs[i]?=some (x,y,z)->∃b o,l.a=some ⟨b,o,none⟩/\b<h.size ∧
 cell h ⟨b,o+i*3,none⟩=some (.int .i64 x)/\cell h ⟨b,o+i*3+1,none⟩=some (.int .i64 y)/\cell h ⟨b,o+i*3+2,none⟩=some (.int .i64 z)
theorem Wkn {h:Hp}{a:Addr}{v:Value}(hc:cell h a=some v):a.block<h.size/\a.spot=none:=by
 unfold cell at hc;split at hc
 ·rename_i heq;refine⟨(zAK.1 heq).1,?_⟩;cases hs:a.spot with
  | none=>rfl
  | some s=>rw[hs]at hc;simp at hc
 ·cases hc
end Go.Vc
namespace Go.Vc
open Go
theorem ldI0 {k:IntKind}{b o i:Nat}{h:Hp}{x:Int}{K:Int->Prop}(hc:cell h ⟨b,o+i,none⟩=some (.int k x))(hK:K x):LdI k (Addr.add ⟨b,o,none⟩ i) h K:=by
 rw[add_lit];exact ldI hc hK
theorem arN {e:Int}{m:Nat}{K:Int->Prop}(he:e=(m:Int))(hm:m<=4611686018427387904)(hK:K (m:Int)):Ar .i64 e K:=by
 rw[he];exact ar (by omega) (by omega) hK
theorem WaP {k:Nat}(h:k<=62):min ((k:Int).toNat) IntKind.i64.bits=k:=by
 have:IntKind.i64.bits=64:=rfl;rw[this];omega
theorem arW {k:IntKind}{e:Int}{K:Int->Prop}(hK:K (k.wrap e)):Ar k e K:=hK
variable {σ:Hp}{b o i j:Nat}{cs:List Value}
theorem Blk.rI (hb:Blk σ b cs){k:IntKind}{x:Int}{K:Int->Prop}(hc:cs[o+i]?=some (.int k x))(hK:K x):LdI k (Addr.add ⟨b,o,none⟩ i) σ K:=by
 rw[add_lit];exact ldI (hb.cell.trans hc) hK
theorem Blk.rB (hb:Blk σ b cs){x:Bool}{K:Bool->Prop}(hc:cs[o+i]?=some (.bool x))(hK:K x):LdB (Addr.add ⟨b,o,none⟩ i) σ K:=by
 rw[add_lit];exact ldB (hb.cell.trans hc) hK
theorem Blk.rP (hb:Blk σ b cs){x:Option Addr}{K:Option Addr->Prop}(hc:cs[o+i]?=some (.pointer x))(hK:K x):LdP (Addr.add ⟨b,o,none⟩ i) σ K:=by
 rw[add_lit];exact ldP (hb.cell.trans hc) hK
theorem Blk.rM (hb:Blk σ b cs){x:Option Nat}{K:Option Nat->Prop}(hc:cs[o+i]?=some (.map x))(hK:K x):LdM (Addr.add ⟨b,o,none⟩ i) σ K:=by
 rw[add_lit];exact ldM (hb.cell.trans hc) hK
theorem Blk.rS (hb:Blk σ b cs){a:Option Addr}{n c:Nat}{K:Sl->Prop}(hc:cs[o+i]?=some (.slice a n c))(hK:K ⟨a,n,c⟩):LdS (Addr.add ⟨b,o,none⟩ i) σ K:=by
 rw[add_lit];exact ldS (hb.cell.trans hc) hK
theorem Blk.rI2 (hb:Blk σ b cs){k:IntKind}{x:Int}{K:Int->Prop}(hc:cs[o+i+j]?=some (.int k x))(hK:K x):LdI k (Addr.add (Addr.add ⟨b,o,none⟩ i) j) σ K:=by
 rw[add_lit,add_lit];exact ldI (hb.cell.trans hc) hK
theorem Blk.rI0 (hb:Blk σ b cs){k:IntKind}{x:Int}{K:Int->Prop}(hc:cs[o]?=some (.int k x))(hK:K x):LdI k ⟨b,o,none⟩ σ K:=ldI (hb.cell.trans hc) hK
theorem Blk.rP0 (hb:Blk σ b cs){x:Option Addr}{K:Option Addr->Prop}(hc:cs[o]?=some (.pointer x))(hK:K x):LdP ⟨b,o,none⟩ σ K:=ldP (hb.cell.trans hc) hK
theorem Blk.rS0 (hb:Blk σ b cs){a:Option Addr}{n c:Nat}{K:Sl->Prop}(hc:cs[o]?=some (.slice a n c))(hK:K ⟨a,n,c⟩):LdS ⟨b,o,none⟩ σ K:=ldS (hb.cell.trans hc) hK
theorem Blk.s1 (hb:Blk σ b cs){v:Value}(ho:o+i<cs.length){K:Hp->Prop}(hK:∀h',ZY σ h' b->Blk h' b (cs.set (o+i) v)->K h'):St1 (Addr.add ⟨b,o,none⟩ i) v σ K:=by
 rw[add_lit];refine⟨?_,hb.frz,hK _ ⟨Ka _ _ _,λc hc=>KA hc⟩ (hb.set v)⟩;rw[hb.cell,gGe ho];rfl
theorem Blk.s0 (hb:Blk σ b cs){v:Value}(ho:o<cs.length){K:Hp->Prop}(hK:∀h',ZY σ h' b->Blk h' b (cs.set o v)->K h'):St1 ⟨b,o,none⟩ v σ K:=by
 refine⟨?_,hb.frz,hK _ ⟨Ka _ _ _,λc hc=>KA hc⟩ (hb.set v)⟩;rw[hb.cell,gGe ho];rfl
theorem nw {e:Nat}{K:Addr->Hp->Prop}(hK:∀h',h'.size=σ.size+1->Ext0 σ h'->Blk h' σ.size cs->K ⟨σ.size,0,none⟩ h'):Nw (.cells cs.toArray e (0,0)) σ K:=
 hK _ (by simp) (Ext.push _ _ _) (Blk.push _ _ _)
theorem WcO {K:Addr->Hp->Prop}(hK:∀h',h'.size=σ.size+1->Ext0 σ h'->(∀(k:IntKind) (c:CK),MapL h' σ.size k c [])->K ⟨σ.size,0,none⟩ h'):Nw (.map #[] 0) σ K:=
 hK _ (by simp) (Ext.push _ _ _) λk c=>MapL.push _ _ _
theorem mk {n bytes e:Nat}{zs:List Value}{K:Sl->Hp->Prop}(h1:bytes*n<=1073741824)(h2:n<=1073741824)
 (hK:∀h',h'.size=σ.size+1->Ext0 σ h'->Blk h' σ.size (List.replicate n zs).flatten->K ⟨some ⟨σ.size,0,none⟩,n,n⟩ h'):Mk (n:Int) (n:Int) bytes e zs σ K:=by
 refine⟨by omega,zCN _,?_,by omega,?_⟩
 ·have:((bytes:Int)*(n:Int))=((bytes*n:Nat):Int):=by simp
  rw[this];omega
 ·simp only[iTn];exact nw hK
theorem slc {s:Sl}{sz lo hi mx:Nat}{K:Sl->Prop}(h1:lo<=hi)(h2:hi<=mx)(h3:mx<=s.cap)(hK:K ⟨if mx=lo then s.a else s.a.map (·.add (lo*sz)),hi-lo,mx-lo⟩):SlcL s sz (lo:Int) (hi:Int) (mx:Int) K:=
 ⟨by omega,by omega,by omega,by omega,by simpa using hK⟩
theorem beqN (a b:Nat):(((a:Nat):Int)==((b:Nat):Int))=(a==b):=by rw[zBF];simp;omega
theorem bneN (a b:Nat):(((a:Nat):Int) != ((b:Nat):Int))=(a != b):=by rw[bne,bne,beqN]
theorem WfM (a:Nat):(((a:Nat):Int)==0)=(a==0):=beqN a 0
theorem Wlx (a:Nat):(((a:Nat):Int) != 0)=(a != 0):=bneN a 0
def ints (l:List Nat):List Value:=l.map λ(x:Nat)=>Value.int .i64 (x:Int)
theorem Z0 (l:List Nat):(ints l).length=l.length:=by simp[ints]
theorem Wh1 {l:List Nat}{i x:Nat}(h:l[i]?=some x):(ints l)[i]?=some (.int .i64 (x:Int)):=by simp[ints,h]
theorem VM (l m:List Nat):ints (l++m)=ints l++ints m:=by simp[ints]
theorem SlR.ixN {s:Sl}{F:Rg}{xs:List Nat}(h:SlR s 1 (ints xs) σ F){i x:Nat}(hx:xs[i]?=some x){K:Int->Prop}(hK:K (x:Int)):Ix s.a s.len (i:Int) 1 λa=>LdI .i64 a σ K:=by
 have hi:=(gSi.1 hx).1;obtain⟨b,o,ha,hc⟩:=h.cell (Wh1 hx);have hl:=h.1;rw[Z0]at hl;rw[ha];refine ix (by omega) (by omega) ?_;rw[add_lit];exact ldI (by simpa using hc) hK
theorem SlR.lenN {s:Sl}{F:Rg}{xs:List Nat}(h:SlR s 1 (ints xs) σ F):s.len=xs.length:=by
 have:=h.1;rw[Z0]at this;omega
theorem SlR.nil (F:Rg)(a:Option Addr)(c sz:Nat):SlR ⟨a,0,c⟩ sz [] σ F:=⟨by simp,.inl rfl⟩
theorem Blk.slR {s:Sl}{sz:Nat}{xs:List Value}(hb:Blk σ b cs)(ha:s.a=some ⟨b,o,none⟩)(hl:xs.length=s.len*sz)(hc:∀j,j<xs.length->cs[o+j]?=xs[j]?):SlR s sz xs σ (· = b):=
 ⟨hl,.inr ⟨b,o,cs,rfl,ha,hb.q,hc⟩⟩
theorem SlR.any {s:Sl}{sz:Nat}{xs:List Value}{F:Rg}(h:SlR s sz xs σ F):SlR s sz xs σ λ_=>True:=(SlR.loc s sz xs).mono h λ_ _ _=>trivial
theorem WjF {a xa:Option Addr}{xc sz bytes e:Nat}{zs:List Value}{K:Sl->Hp->Prop}(hK:K ⟨a,0,0⟩ σ):App ⟨a,0,0⟩ sz bytes e zs ⟨xa,0,xc⟩ σ K:=by
 refine⟨[],[],by simp,by simp,by cases a<;>simp[Rd],by cases xa<;>simp[Rd],by simp,by simp,by simp,λ_=>?_,λh=>absurd (zD 0) h⟩
 cases a
 ·exact hK
 ·exact hK
theorem RowR.push {F:Rg}{s:Sl}{sz bytes e t:Nat}{zs xs vs:List Value}{K:Sl->Hp->Prop}(ho:RowR s sz xs σ F)(hF:∀b,σ.size<=b->F b)(hz:zs.length=sz)(hv:vs.length=sz)(h1:∀v∈vs,one1 v=true)
 (hb:bytes<=1000) (hl:s.len<=1000000) (hK:∀s' h',s'.len=s.len+1->Ext F σ h'->RowR s' sz (xs++vs) h' F->K s' h') :
 Nw (.cells vs.toArray t (0,0)) σ λn v=>App s sz bytes e zs ⟨some n,1,1⟩ v K:=by
 refine nw λv hvz e1 hb1=>?_;have ho1:=(RowR.loc s sz xs).keep0 ho e1;refine ho1.app (ys:=vs) hz (by simp[hv]) ?_ h1 ?_ ?_ zBA λs' h' hl' e' ho'=>hK s' h' hl' (e1.to.trans e') ?_
 ·intro j u hu;rw[add_lit,zG,hb1.cell];exact hu
 ·simp only;have:(s.len+1)*bytes<=1000001*1000:=zo (by omega) hb;omega
 ·simp only;omega
 ·exact(RowR.loc _ _ _).mono ho' λb _ hg=>by
   rcases hg with h|h
   ·exact h
   ·exact hF b (by omega)
theorem RowR.lenN {F:Rg}{s:Sl}{xs:List Nat}(h:RowR s 1 (ints xs) σ F):s.len=xs.length:=by
 have:=h.1;rw[Z0]at this;omega
theorem Wan {F:Rg}{s:Sl}{sz bytes e:Nat}{zs vs:List Value}{R:Sl->Hp->Prop}(h:SlR s sz vs σ F)(hpos:0<sz)(hz:zs.length=sz)(h1:∀v∈vs,one1 v=true)(hb:bytes<=1000)(hl:s.len<=1000000)
 (hR:∀s' σ',s'.len=s.len->Ext0 σ σ'->RowR s' sz vs σ' (λb=>σ.size<=b)->R s' σ') :
 If s.a.isNone (R ⟨none,0,0⟩ σ) (Nw (.cells #[] e (0,0)) σ λn v=>App ⟨some n,0,0⟩ sz bytes e zs s v λt v1=>R t v1):=by
 have hlen:=h.1;refine iff_ (λhn=>?_) λhn=>?_
 ·have hv:vs=[]:=by
   rcases h.2 with h0|⟨b,o,cs,_,ha,_⟩
   ·exact h0
   ·rw[ha]at hn;cases hn
  subst hv;have h0:s.len=0:=by
   have h2:s.len*sz=0:=by simpa using hlen.symm
   rcases zDE.1 h2 with h|h
   ·exact h
   ·omega
  exact hR _ _ (by simp[h0]) (Ext.refl _ _) (RowR.nil _ _ _ _)
 ·refine nw (cs:=[]) λv hvz e1 hb1=>?_;have hs:=(SlR.loc s sz vs).keep0 h e1;rcases zFW s.len with h0|h0
  ·obtain⟨a,n,c⟩:=s;simp only at h0;subst h0;have:vs=[]:=by simpa using hlen
   subst this;exact WjF (hR _ _ rfl e1 (RowR.nil _ _ _ _))
  ·refine(RowR.nil v (λb=>σ.size<=b) sz (some ⟨σ.size,0,none⟩)).app (ys:=vs) hz hlen hs.rd h1 ?_ ?_ h0 λs' h' hl' e' ho'=>hR s' h' (by simpa using hl') ?_ ?_
   ·simp only[zG];have:s.len*bytes<=1000000*1000:=zo hl hb;omega
   ·simp only;omega
   ·exact Ext.fresh e1 e' λi hi=>hi
   ·rw[zCK]at ho';exact(RowR.loc _ _ _).mono ho' λb _ hg=>by
     rcases hg with h|h
     ·exact h
     ·omega
def Cut (F:Rg)(σ:Hp):Rg:=λb=>F b/\b<σ.size
theorem Lcl.cut {P:Hp->Rg->Prop}(hl:Lcl P){F:Rg}(h:P σ F):P σ (Cut F σ):=hl.mono h λb hb hf=>⟨hf,hb⟩
theorem Ext.cut {F:Rg}{σ':Hp}(e:Ext (Cut F σ) σ σ'):Ext F σ σ':=⟨e.1,λb hb hf=>e.2 b hb λhc=>hf hc.1⟩
theorem Ext.sub {F G:Rg}{a b:Hp}(e:Ext F a b)(h:∀i,F i->G i):Ext G a b:=e.mono λi _ hf=>h i hf
theorem ZY.ext {h h':Hp}{r:Nat}(ho:ZY h h' r):Ext (· = r) h h':=Ext.of_only ho rfl
theorem Ext.growT {F:Rg}{a b c:Hp}(e:Ext F a b)(k:Ext (Grow F a) b c):Ext F a c:=
 ⟨ze e.1 k.1,λi hi hf=>(k.2 i (zDJ hi e.1) λhg=>by rcases hg with h|h;exact hf h;omega).trans (e.2 i hi hf)⟩
theorem Ext.newT {F G:Rg}{a b c:Hp}(e:Ext F a b)(k:Ext G b c)(h:∀i,G i->F i\/a.size<=i):Ext F a c:=e.growT (k.sub h)
theorem WaN {P:Program}{f:Nat}{first caps:Array Value}{args:List Value}{all:Array Value}{rs:List SK}{R:Fam (ksOf rs)}(hok:VZ P f=true)(he:first++args.toArray++caps=all)
 (hc:Wi P f all rs σ R):VC P ⟨f,first,caps⟩ args rs σ R:=⟨hok,by unfold WkQ;simp only;rw[he];exact hc⟩
theorem ZD {h h':Hp}{F:Nat->Prop}(e:Ext F h h'){b o:Nat}(hb:b<h.size)(hF:¬F b):cell h' ⟨b,o,none⟩=cell h ⟨b,o,none⟩:=by
 unfold cell;rw[e.2 b hb hF]
theorem HF {h h':Hp}{l:Sl}{xs:List (Int×Int×Int)}{F:Nat->Prop}(ha:Acts h l xs)(e:Ext F h h')(hF:∀b,F b->∀o,l.a≠some ⟨b,o,none⟩):Acts h' l xs:=by
 refine⟨ha.1,λi x y z hx=>?_⟩;obtain⟨b,o,h1,h2,h3,h4,h5⟩:=ha.2 i x y z hx;have hn:¬F b:=λhf=>hF b hf o h1;exact⟨b,o,h1,zDJ h2 e.1,by rw[ZD e h2 hn];exact h3,by rw[ZD e h2 hn];exact h4,by rw[ZD e h2 hn];exact h5⟩
theorem Xb {h h':Hp}{l:Sl}{xs:List (Int×Int×Int)}(ha:Acts h l xs)(e:Ext0 h h'):Acts h' l xs:=HF ha e λ_ h=>h.elim
theorem K0 {h:Hp}{l:Sl}{xs:List (Int×Int×Int)}(ha:Acts h l xs){i:Nat}{x y z:Int}(hx:xs[i]?=some (x,y,z)){K:Int->Int->Int->Prop}(hK:K x y z) :
 Ix l.a l.len (i:Int) 3 λa=>LdI .i64 (a.add 0) h λu=>LdI .i64 (a.add 1) h λv=>LdI .i64 (a.add 2) h λw=>K u v w:=by
 obtain⟨b,o,h1,h2,h3,h4,h5⟩:=ha.2 i x y z hx;have hi:=(gSi.1 hx).1;rw[h1];refine ix (by omega) (by rw[ha.1];omega) ?_;rw[add_lit];refine ldI0 (by simpa using h3) (ldI0 (by simpa using h4) (ldI0 (by simpa using h5) hK))
end Go.Vc
namespace Go.Proofs
open Go.Vc
abbrev _root_.R1:=@Wi Tryz.prog
abbrev _root_.R2:=Option Addr
def WL.c (a b c:Int)(d:Hp)(e:Bool->Hp->Prop):Prop:=R1 4 #[.I a,.I b,.I c] [.one .b] d e
def WF.c (a:Hp)(b:Bool->Hp->Prop):Prop:=R1 13 #[] [.one .b] a b
def Zp.c (a:Sl)(b c:Int)(d:Hp)(e:Int->Int->Hp->Prop):Prop:=R1 14 #[.slice a.a a.len a.cap,.I b,.I c] [.I,.I] d e
def WE.c (a:Int)(b:Hp)(c:Sl->Int->Hp->Prop):Prop:=R1 16 #[.I a] [.one .s,.I] b c
def Xn.c (a:Sl)(b c:Int)(d:Hp)(e:Int->Int->Hp->Prop):Prop:=R1 17 #[.slice a.a a.len a.cap,.I b,.I c] [.I,.I] d e
def Wx.c (a b c:Int)(d:Hp)(e:Int->Hp->Prop):Prop:=R1 18 #[.agg #[.I a,.I b,.I c]] [.I] d e
def Z9.c (a:R2)(b:Hp)(c:Option Addr->Int->Hp->Prop):Prop:=R1 19 #[.pointer a] [.one .p,.I] b c
def XB.c (a:R2)(b c d:Int)(e:Hp)(f:Int->Int->Hp->Prop):Prop:=R1 20 #[.pointer a,.I b,.I c,.I d] [.I,.I] e f
def Xi.c (a:R2)(b:Hp)(c:Int->Int->Int->Int->Int->Int->Int->Int->Int->Int->Hp->Prop):Prop:=R1 24 #[.pointer a] [.agg [(.i .i64),(.i .i64),(.i .i64),(.i .i64),(.i .i64),(.i .i64),(.i .i64),(.i .i64),(.i .i64),(.i .i64)]] b c
def X0.c (a:R2)(b:Hp)(c:Sl->Hp->Prop):Prop:=R1 25 #[.pointer a] [.one .s] b c
def Xl.c (a:Hp)(b:Option Addr->Hp->Prop):Prop:=R1 29 #[] [.one .p] a b
def YG.c (a:R2)(b:Hp)(c:Sl->Hp->Prop):Prop:=R1 31 #[.pointer a] [.one .s] b c
def Ym.c (a:R2)(b:Hp)(c:Sl->Hp->Prop):Prop:=R1 33 #[.pointer a] [.one .s] b c
def Yp.c (a:R2)(b:Hp)(c:Int->Int->Int->Int->Int->Int->Int->Int->Int->Int->Int->Hp->Prop):Prop:=R1 36 #[.pointer a] [.agg [(.i .i64),(.i .i64),(.i .i64),(.i .i64),(.i .i64),(.i .i64),(.i .i64),(.i .i64),(.i .i64),(.i .i64),(.i .i64)]] b c
def XD.c (a b:Sl)(c:Hp)(d:Bool->Hp->Prop):Prop:=R1 39 #[.slice a.a a.len a.cap,.slice b.a b.len b.cap] [.one .b] c d
def Y5.c (a:Sl)(b:Hp)(c:Bool->Hp->Prop):Prop:=R1 40 #[.slice a.a a.len a.cap] [.one .b] b c
def Zo.c (a:Sl)(b c:Int)(d:Hp)(e:Int->Int->Hp->Prop):Prop:=R1 41 #[.slice a.a a.len a.cap,.I b,.I c] [.I,.I] d e
def YB.c (a b c:Int)(d:Hp)(e:Int->Int->Hp->Prop):Prop:=R1 42 #[.agg #[.I a,.I b,.I c]] [.I,.I] d e
def ZE.c (a b c:Int)(d:Hp)(e:Int->Int->Hp->Prop):Prop:=R1 43 #[.agg #[.I a,.I b,.I c]] [.I,.I] d e
def Xk.c (a:Sl)(b:Hp)(c:Bool->Hp->Prop):Prop:=R1 44 #[.slice a.a a.len a.cap] [.one .b] b c
def W4.c (a b:Int)(c:Hp)(d:Int->Int->Int->Hp->Prop):Prop:=R1 47 #[.I a,.I b] [.agg [(.i .i64),(.i .i64),(.i .i64)]] c d
def XF.c (a b:Int)(c:Hp)(d:Int->Hp->Prop):Prop:=R1 48 #[.I a,.I b] [.I] c d
def Xm.c (a b:Int)(c:Hp)(d:Bool->Hp->Prop):Prop:=R1 49 #[.I a,.I b] [.one .b] c d
def ZP.c (a:R2)(b:Hp)(c:Bool->Hp->Prop):Prop:=R1 50 #[.pointer a] [.one .b] b c
def Xt.c (a:R2)(b:Hp)(c:Bool->Hp->Prop):Prop:=R1 51 #[.pointer a] [.one .b] b c
def Yu.c (a:R2)(b c d:Int)(e:Hp)(f:Int->Int->Hp->Prop):Prop:=R1 52 #[.pointer a,.I b,.I c,.I d] [.I,.I] e f
def XE.c (a:R2)(b:Int)(c:Hp)(d:Hp->Prop):Prop:=R1 53 #[.pointer a,.I b] [] c d
def X3.c (a:R2)(b:Int)(c:R2)(d:Hp)(e:Hp->Prop):Prop:=R1 54 #[.pointer a,.I b,.pointer c] [] d e
def Yv.c (a:R2)(b:Hp)(c:Int->Int->Int->Int->Int->Hp->Prop):Prop:=R1 55 #[.pointer a] [.agg [(.i .i64),(.i .i64),(.i .i64),(.i .i64),(.i .i64)]] b c
def WY.c (a:Sl)(b:Fv)(c:Hp)(d:Int->Hp->Prop):Prop:=R1 59 #[.slice a.a a.len a.cap,.func (.func b.f) b.first b.captured] [.I] c d
def Xp.c (a b c d:Int)(e:Hp)(f:Int->Hp->Prop):Prop:=R1 60 #[.agg #[.I a,.I b,.I c,.I d]] [.I] e f
def WW.c (a b c d e f:Int)(g:Hp)(h:Option Addr->Hp->Prop):Prop:=R1 63 #[.agg #[.I a,.I b,.I c,.I d,.I e,.I f]] [.one .p] g h
def Xo.c (a:R2)(b:Hp)(c:Bool->Hp->Prop):Prop:=R1 65 #[.pointer a] [.one .b] b c
def Kx.c (a:Fv)(b:Hp)(c:Sl->Hp->Prop):Prop:=R1 66 #[.func (.func a.f) a.first a.captured] [.one .s] b c
def Za.c (a:Option Nat)(b:Hp)(c:Fv->Hp->Prop):Prop:=R1 67 #[.map a] [.one .fn] b c
def Wc.c (a:Sl)(b:Hp)(c:Sl->Hp->Prop):Prop:=R1 68 #[.slice a.a a.len a.cap] [.one .s] b c
def Xe.c (a:R2)(b:Hp)(c:Int->Hp->Prop):Prop:=R1 71 #[.pointer a] [.I] b c
def W8.c (a:R2)(b:Hp)(c:Int->Hp->Prop):Prop:=R1 72 #[.pointer a] [.I] b c
def W6.c (a:R2)(b:Hp)(c:Int->Hp->Prop):Prop:=R1 73 #[.pointer a] [.I] b c
def XC.c (a:R2)(b:Hp)(c:Int->Int->Int->Int->Int->Int->Hp->Prop):Prop:=R1 74 #[.pointer a] [.I,.I,.I,.I,.I,.I] b c
def XT.c (a:R2)(b:Int)(c:Hp)(d:Int->Hp->Prop):Prop:=R1 75 #[.pointer a,.I b] [.I] c d
def Yw.c (a:R2)(b:Int)(c:Hp)(d:Int->Int->Int->Hp->Prop):Prop:=R1 76 #[.pointer a,.I b] [.I,.I,.I] c d
def ZN.c (a b c:Int)(d:Hp)(e:Bool->Hp->Prop):Prop:=R1 77 #[.agg #[.I a,.I b,.I c]] [.one .b] d e
def Zy.c (a:Int)(b:Hp)(c:Int->Hp->Prop):Prop:=R1 78 #[.I a] [.I] b c
def Wk.c (a:Sl)(b:Fv)(c:Hp)(d:Int->Hp->Prop):Prop:=R1 79 #[.slice a.a a.len a.cap,.func (.func b.f) b.first b.captured] [.I] c d
def Zk.c (a b c:Int)(d e:Addr)(f:Hp)(g:Bool->Hp->Prop):Prop:=R1 80 #[.agg #[.I a,.I b,.I c],.pointer (some d),.pointer (some e)] [.one .b] f g
def Y7.c (a b c:Int)(d:Hp)(e:Int->Hp->Prop):Prop:=R1 81 #[.agg #[.I a,.I b,.I c]] [.I] d e
def Xh.c (a b c:Int)(d:Hp)(e:Bool->Hp->Prop):Prop:=R1 82 #[.agg #[.I a,.I b,.I c]] [.one .b] d e
def Yi.c (a:R2)(b c d e f:Int)(g:Hp)(h:Int->Int->Hp->Prop):Prop:=R1 83 #[.pointer a,.I b,.agg #[.I c,.I d,.I e,.I f]] [.I,.I] g h
def WB.c (a:Sl)(b:Hp)(c:Sl->Hp->Prop):Prop:=R1 90 #[.slice a.a a.len a.cap] [.one .s] b c
def QB.c (a:Sl)(b c d e f:Int)(g:Hp)(h:Option Addr->Int->Hp->Prop):Prop:=R1 92 #[.slice a.a a.len a.cap,.agg #[.I b,.I c,.I d,.I e,.I f]] [.one .p,.I] g h
def Kd.c (a:Fv)(b:Hp)(c:Sl->Hp->Prop):Prop:=R1 93 #[.func (.func a.f) a.first a.captured] [.one .s] b c
def YH.c (a:R2)(b c d e f:Int)(g:Hp)(h:Int->Hp->Prop):Prop:=R1 98 #[.pointer a,.I b,.agg #[.I c,.I d,.I e,.I f]] [.I] g h
def YO.c (a:R2)(b:Int)(c:Hp)(d:Bool->Int->Int->Int->Hp->Prop):Prop:=R1 99 #[.pointer a,.I b] [.one .b,.agg [(.i .i64),(.i .i64)],.I] c d
def W7.c (a:R2)(b:Hp)(c:Int->Hp->Prop):Prop:=R1 103 #[.pointer a] [.I] b c
def Xs.c (a:R2)(b:Hp)(c:Bool->Hp->Prop):Prop:=R1 104 #[.pointer a] [.one .b] b c
def W1.c (a:R2)(b:Hp)(c:Bool->Hp->Prop):Prop:=R1 105 #[.pointer a] [.one .b] b c
def WT.c (a:R2)(b:Hp)(c:Bool->Hp->Prop):Prop:=R1 106 #[.pointer a] [.one .b] b c
def XH.c (a:R2)(b:Hp)(c:Sl->Hp->Prop):Prop:=R1 107 #[.pointer a] [.one .s] b c
def WP.c (a:R2)(b:Hp)(c:Sl->Hp->Prop):Prop:=R1 108 #[.pointer a] [.one .s] b c
def X1.c (a:R2)(b:Hp)(c:Int->Hp->Prop):Prop:=R1 109 #[.pointer a] [.I] b c
def YJ.c (a:R2)(b:Hp)(c:Int->Hp->Prop):Prop:=R1 110 #[.pointer a] [.I] b c
def Wj.c (a:Sl)(b:Fv)(c:Hp)(d:Int->Hp->Prop):Prop:=R1 111 #[.slice a.a a.len a.cap,.func (.func b.f) b.first b.captured] [.I] c d
def YD.c (a:R2)(b:Addr)(c:Hp)(d:Bool->Hp->Prop):Prop:=R1 112 #[.pointer a,.pointer (some b)] [.one .b] c d
def Yz.c (a:R2)(b:Int)(c:Hp)(d:Bool->Hp->Prop):Prop:=R1 113 #[.pointer a,.I b] [.one .b] c d
def YN.c (a:R2)(b:Int)(c:Hp)(d:Int->Hp->Prop):Prop:=R1 114 #[.pointer a,.I b] [.I] c d
def X9.c (a:R2)(b:Int)(c:Hp)(d:Int->Int->Hp->Prop):Prop:=R1 115 #[.pointer a,.I b] [.I,.I] c d
def ZR.c (a b c d e:Int)(f:Hp)(g:Bool->Hp->Prop):Prop:=R1 123 #[.agg #[.I a,.I b,.I c,.I d,.I e]] [.one .b] f g
def Qa.c (a:Int)(b:Hp)(c:Option Addr->Int->Hp->Prop):Prop:=R1 124 #[.I a] [.one .p,.I] b c
def Z8.c (a:Sl)(b:R2)(c:Int)(d:Hp)(e:Option Addr->Int->Hp->Prop):Prop:=R1 125 #[.slice a.a a.len a.cap,.pointer b,.I c] [.one .p,.I] d e
def Qc.c (a:Sl)(b:Int)(c:Hp)(d:Option Addr->Int->Hp->Prop):Prop:=R1 126 #[.slice a.a a.len a.cap,.I b] [.one .p,.I] c d
def Yo.c (a:R2)(b:Int)(c:Hp)(d:Bool->Hp->Prop):Prop:=R1 131 #[.pointer a,.I b] [.one .b] c d
def X5.c (a:R2)(b c d e:Int)(f:Hp)(g:Value->Hp->Prop):Prop:=R1 132 #[.pointer a,.agg #[.I b,.I c,.I d,.I e]] [.one .raw] f g
def YW.c (a:R2)(b:Int)(c:Value)(d:Hp)(e:Value->Int->Int->Hp->Prop):Prop:=R1 133 #[.pointer a,.I b,c] [.one .raw,.agg [(.i .i64),(.i .i64)]] d e
def Ww.c (a:R2)(b:Hp)(c:Bool->Hp->Prop):Prop:=R1 137 #[.pointer a] [.one .b] b c
def Y6.c (a:R2)(b:Hp)(c:Int->Int->Hp->Prop):Prop:=R1 138 #[.pointer a] [.agg [(.i .i64),(.i .i64)]] b c
def WS.c (a:R2)(b:Hp)(c:Bool->Hp->Prop):Prop:=R1 139 #[.pointer a] [.one .b] b c
def Xg.c (a:Sl)(b:Hp)(c:Sl->Hp->Prop):Prop:=R1 140 #[.slice a.a a.len a.cap] [.one .s] b c
def Xx.c (a:R2)(b:Hp)(c:Int->Hp->Prop):Prop:=R1 141 #[.pointer a] [.I] b c
def Xy.c (a:R2)(b:Hp)(c:Bool->Hp->Prop):Prop:=R1 142 #[.pointer a] [.one .b] b c
def XG.c (a:R2)(b:Int)(c:Hp)(d:Int->Hp->Prop):Prop:=R1 143 #[.pointer a,.I b] [.I] c d
def Xr.c (a:R2)(b:Hp)(c:Bool->Hp->Prop):Prop:=R1 144 #[.pointer a] [.one .b] b c
def Xu.c (a:R2)(b:Int)(c:Hp)(d:Option Addr->Hp->Prop):Prop:=R1 145 #[.pointer a,.I b] [.one .p] c d
def XY.c (a:R2)(b:Int)(c:Hp)(d:Int->Int->Hp->Prop):Prop:=R1 146 #[.pointer a,.I b] [.I,.I] c d
def W9.c (a:R2)(b:Hp)(c:Bool->Hp->Prop):Prop:=R1 149 #[.pointer a] [.one .b] b c
def Zz.c (a:Hp)(b:Option Addr->Hp->Prop):Prop:=R1 150 #[] [.one .p] a b
def Yl.c (a:R2)(b c d:Int)(e:Hp)(f:Int->Hp->Prop):Prop:=R1 152 #[.pointer a,.I b,.I c,.I d] [.I] e f
def Qb.c (a:Int)(b:Hp)(c:Option Addr->Int->Hp->Prop):Prop:=R1 154 #[.I a] [.one .p,.I] b c
def QA.c (a:Int)(b:Hp)(c:Option Addr->Int->Hp->Prop):Prop:=R1 155 #[.I a] [.one .p,.I] b c
def ZA.c (a b c:Int)(d:Hp)(e:Option Addr->Int->Hp->Prop):Prop:=R1 156 #[.agg #[.I a,.I b,.I c]] [.one .p,.I] d e
def Zl.c (a b:Int)(c:Hp)(d:Option Addr->Int->Hp->Prop):Prop:=R1 157 #[.I a,.I b] [.one .p,.I] c d
def Y3.c (a:R2)(b:Int)(c:Hp)(d:Int->Hp->Prop):Prop:=R1 170 #[.pointer a,.I b] [.I] c d
def XO.c (a:R2)(b:Int)(c:Hp)(d:Int->Int->Hp->Prop):Prop:=R1 171 #[.pointer a,.I b] [.I,.I] c d
def Yq.c (a:R2)(b c d:Int)(e:Hp)(f:Value->Int->Int->Hp->Prop):Prop:=R1 172 #[.pointer a,.I b,.I c,.I d] [.one .raw,.agg [(.i .i64),(.i .i64)]] e f
def XV.c (a:R2)(b:Int)(c:Hp)(d:Int->Int->Hp->Prop):Prop:=R1 173 #[.pointer a,.I b] [.I,.I] c d
def Wy.c (a:R2)(b:Int)(c:Hp)(d:Sl->Int->Hp->Prop):Prop:=R1 174 #[.pointer a,.I b] [.one .s,.I] c d
def X4.c (a:R2)(b c:Int)(d:Sl)(e:Hp)(f:Hp->Prop):Prop:=R1 175 #[.pointer a,.I b,.I c,.slice d.a d.len d.cap] [] e f
def Wz.c (a:R2)(b c:Int)(d:Hp)(e:Sl->Int->Hp->Prop):Prop:=R1 176 #[.pointer a,.I b,.I c] [.one .s,.I] d e
def XM.c (a:R2)(b:Int)(c:Hp)(d:Int->Hp->Prop):Prop:=R1 177 #[.pointer a,.I b] [.I] c d
def XQ.c (a:R2)(b:Int)(c:Sl)(d:Hp)(e:Int->Hp->Prop):Prop:=R1 178 #[.pointer a,.I b,.slice c.a c.len c.cap] [.I] d e
def WH.c (a:R2)(b c:Int)(d:Hp)(e:Int->Int->Hp->Prop):Prop:=R1 179 #[.pointer a,.I b,.I c] [.I,.I] d e
def YZ.c (a:R2)(b c:Int)(d:Hp)(e:Value->Int->Int->Hp->Prop):Prop:=R1 180 #[.pointer a,.I b,.I c] [.one .raw,.agg [(.i .i64),(.i .i64)]] d e
def Yn.c (a:R2)(b c:Int)(d:Hp)(e:Sl->Int->Hp->Prop):Prop:=R1 181 #[.pointer a,.I b,.I c] [.one .s,.I] d e
def XX.c (a:R2)(b:Hp)(c:Bool->Hp->Prop):Prop:=R1 182 #[.pointer a] [.one .b] b c
def WV.c (a:R2)(b:Hp)(c:Sl->Hp->Prop):Prop:=R1 183 #[.pointer a] [.one .s] b c
def WR.c (a:R2)(b:Int)(c:Hp)(d:Value->Hp->Prop):Prop:=R1 184 #[.pointer a,.I b] [.one .raw] c d
def Wn.c (a:Sl)(b:Hp)(c:Sl->Hp->Prop):Prop:=R1 185 #[.slice a.a a.len a.cap] [.one .s] b c
def YX.c (a:R2)(b c:Int)(d:Sl)(e:Hp)(f:Hp->Prop):Prop:=R1 186 #[.pointer a,.I b,.agg #[.I c,.slice d.a d.len d.cap]] [] e f
def WG.c (a:R2)(b:Int)(c:Hp)(d:Int->Hp->Prop):Prop:=R1 187 #[.pointer a,.I b] [.I] c d
def Xw.c (a:R2)(b:Hp)(c:Sl->Hp->Prop):Prop:=R1 188 #[.pointer a] [.one .s] b c
def XS.c (a:R2)(b:Sl)(c:Hp)(d:Hp->Prop):Prop:=R1 189 #[.pointer a,.slice b.a b.len b.cap] [] c d
def XI.c (a:R2)(b:Hp)(c:Sl->Hp->Prop):Prop:=R1 190 #[.pointer a] [.one .s] b c
def WJ.c (a:R2)(b:Int)(c:Sl)(d:Hp)(e:Int->Hp->Prop):Prop:=R1 199 #[.pointer a,.I b,.slice c.a c.len c.cap] [.I] d e
def X2.c (a:R2)(b:Hp)(c:Bool->Hp->Prop):Prop:=R1 200 #[.pointer a] [.one .b] b c
def Xj.c (a:Sl)(b:Int)(c:Hp)(d:Sl->Hp->Prop):Prop:=R1 201 #[.slice a.a a.len a.cap,.I b] [.one .s] c d
def Ya.c (a:R2)(b:Int)(c:Hp)(d:Int->Hp->Prop):Prop:=R1 202 #[.pointer a,.I b] [.I] c d
def YF.c (a:R2)(b c:Int)(d:Hp)(e:Hp->Prop):Prop:=R1 204 #[.pointer a,.I b,.I c] [] d e
def Xa.c (a:R2)(b:Int)(c:Hp)(d:Option Addr->Int->Hp->Prop):Prop:=R1 211 #[.pointer a,.I b] [.one .p,.I] c d
def WM.c (a:R2)(b:Int)(c:Hp)(d:Int->Hp->Prop):Prop:=R1 212 #[.pointer a,.I b] [.I] c d
def Wv.c (a:R2)(b:Hp)(c:Sl->Int->Hp->Prop):Prop:=R1 213 #[.pointer a] [.one .s,.I] b c
def W0.c (a:R2)(b:Int)(c:Hp)(d:Sl->Int->Hp->Prop):Prop:=R1 214 #[.pointer a,.I b] [.one .s,.I] c d
def Yk.c (a:R2)(b c d:Int)(e:Hp)(f:Int->Int->Hp->Prop):Prop:=R1 215 #[.pointer a,.I b,.I c,.I d] [.I,.I] e f
def Ys.c (a:R2)(b:Int)(c:Hp)(d:Int->Hp->Prop):Prop:=R1 216 #[.pointer a,.I b] [.I] c d
def WO.c (a:Sl)(b:Hp)(c:Hp->Prop):Prop:=R1 217 #[.slice a.a a.len a.cap] [] b c
def WN.c (a:R2)(b:Sl)(c:Hp)(d:Int->Hp->Prop):Prop:=R1 218 #[.pointer a,.slice b.a b.len b.cap] [.I] c d
def WZ.c (a:R2)(b:Int)(c:Hp)(d:Sl->Hp->Prop):Prop:=R1 219 #[.pointer a,.I b] [.one .s] c d
def W5.c (a:R2)(b:Fv)(c:Hp)(d:Sl->Hp->Prop):Prop:=R1 220 #[.pointer a,.func (.func b.f) b.first b.captured] [.one .s] c d
def Xd.c (a:R2)(b:Int)(c:Hp)(d:Sl->Hp->Prop):Prop:=R1 221 #[.pointer a,.I b] [.one .s] c d
def WD.c (a:R2)(b:Int)(c:Sl)(d:Hp)(e:Bool->Int->Hp->Prop):Prop:=R1 222 #[.pointer a,.I b,.slice c.a c.len c.cap] [.one .b,.I] d e
def Yb.c (a:R2)(b:Int)(c:Hp)(d:Sl->Hp->Prop):Prop:=R1 223 #[.pointer a,.I b] [.one .s] c d
def Xz.c (a:R2)(b c:Int)(d:Hp)(e:Int->Hp->Prop):Prop:=R1 224 #[.pointer a,.I b,.I c] [.I] d e
def Xc.c (a:R2)(b c:Int)(d:Hp)(e:Int->Hp->Prop):Prop:=R1 225 #[.pointer a,.I b,.I c] [.I] d e
def XN.c (a:R2)(b c:Int)(d:Hp)(e:Int->Hp->Prop):Prop:=R1 226 #[.pointer a,.I b,.I c] [.I] d e
def We.c (a:Sl)(b:Fv)(c:Hp)(d:Sl->Hp->Prop):Prop:=R1 227 #[.slice a.a a.len a.cap,.func (.func b.f) b.first b.captured] [.one .s] c d
def XK.c (a b:Int)(c:R2)(d:Addr)(e:Hp)(f:Bool->Hp->Prop):Prop:=R1 228 #[.agg #[.I a,.I b,.pointer c],.pointer (some d)] [.one .b] e f
def Yt.c (a:R2)(b:Hp)(c:Int->Hp->Prop):Prop:=R1 229 #[.pointer a] [.I] b c
def ZQ.c (a:Sl)(b:Int)(c:Hp)(d:Int->Hp->Prop):Prop:=R1 230 #[.slice a.a a.len a.cap,.I b] [.I] c d
def YI.c (a:R2)(b:Int)(c:Hp)(d:Sl->Hp->Prop):Prop:=R1 231 #[.pointer a,.I b] [.one .s] c d
def Xv.c (a:R2)(b c d:Int)(e:Sl)(f:Hp)(g:Int->Hp->Prop):Prop:=R1 235 #[.pointer a,.I b,.I c,.I d,.slice e.a e.len e.cap] [.I] f g
def X7.c (a:R2)(b:Int)(c:Hp)(d:Sl->Int->Hp->Prop):Prop:=R1 238 #[.pointer a,.I b] [.one .s,.I] c d
def ZM.c (a:Sl)(b:Int)(c:Hp)(d:Hp->Prop):Prop:=R1 240 #[.slice a.a a.len a.cap,.I b] [] c d
def Yr.c (a:R2)(b c:Int)(d:Hp)(e:Int->Hp->Prop):Prop:=R1 241 #[.pointer a,.I b,.I c] [.I] d e
def X8.c (a:R2)(b:Int)(c:Hp)(d:Bool->Hp->Prop):Prop:=R1 242 #[.pointer a,.I b] [.one .b] c d
def YY.c (a:R2)(b c:Int)(d:Hp)(e:Hp->Prop):Prop:=R1 243 #[.pointer a,.I b,.I c] [] d e
def YA.c (a:R2)(b:Sl)(c:Hp)(d:Sl->Int->Hp->Prop):Prop:=R1 246 #[.pointer a,.slice b.a b.len b.cap] [.one .s,.I] c d
def Wq.c (a:R2)(b:Hp)(c:Option Addr->Hp->Prop):Prop:=R1 247 #[.pointer a] [.one .p] b c
def Wu.c (a:R2)(b:Hp)(c:Option Addr->Hp->Prop):Prop:=R1 248 #[.pointer a] [.one .p] b c
def YV.c (a:R2)(b:Int)(c:Hp)(d:Option Addr->Hp->Prop):Prop:=R1 250 #[.pointer a,.I b] [.one .p] c d
def Yy.c (a:R2)(b:Hp)(c:Int->Bool->Hp->Prop):Prop:=R1 251 #[.pointer a] [.I,.one .b] b c
def XA.c (a:R2)(b c:Int)(d:Hp)(e:Int->Int->Hp->Prop):Prop:=R1 252 #[.pointer a,.I b,.I c] [.I,.I] d e
def Yx.c (a:R2)(b:Int)(c:Hp)(d:Bool->Hp->Prop):Prop:=R1 253 #[.pointer a,.I b] [.one .b] c d
def Xq.c (a:R2)(b c:Int)(d:Hp)(e:Int->Hp->Prop):Prop:=R1 254 #[.pointer a,.I b,.I c] [.I] d e
def XP.c (a:R2)(b c d:Int)(e:Hp)(f:Int->Hp->Prop):Prop:=R1 255 #[.pointer a,.I b,.I c,.I d] [.I] e f
def Qz.c (a b c d:Int)(e:Hp)(f:Option Addr->Int->Hp->Prop):Prop:=R1 256 #[.I a,.agg #[.I b,.I c,.I d]] [.one .p,.I] e f
def Wb.c (a:Sl)(b:Int)(c:Fv)(d:Hp)(e:Int->Bool->Hp->Prop):Prop:=R1 257 #[.slice a.a a.len a.cap,.I b,.func (.func c.f) c.first c.captured] [.I,.one .b] d e
def Yj.c (a b:Int)(c:R2)(d:Int)(e:Hp)(f:Int->Hp->Prop):Prop:=R1 258 #[.agg #[.I a,.I b,.pointer c],.I d] [.I] e f
def Wg.c (a:Sl)(b:Int)(c:Sl)(d:Hp)(e:Sl->Hp->Prop):Prop:=R1 259 #[.slice a.a a.len a.cap,.I b,.slice c.a c.len c.cap] [.one .s] d e
def W3.c (a:Sl)(b:Hp)(c:Sl->Hp->Prop):Prop:=R1 260 #[.slice a.a a.len a.cap] [.one .s] b c
def Zn.c (a:Sl)(b:Fv)(c:Hp)(d:Hp->Prop):Prop:=R1 261 #[.slice a.a a.len a.cap,.func (.func b.f) b.first b.captured] [] c d
def WU.c (a:R2)(b:Int)(c:Hp)(d:Bool->Int->Hp->Prop):Prop:=R1 263 #[.pointer a,.I b] [.one .b,.I] c d
def WX.c (a:R2)(b:Sl)(c:Hp)(d:Bool->Int->Hp->Prop):Prop:=R1 264 #[.pointer a,.slice b.a b.len b.cap] [.one .b,.I] c d
def XU.c (a:R2)(b c:Int)(d:Hp)(e:Hp->Prop):Prop:=R1 265 #[.pointer a,.I b,.I c] [] d e
def Wh.c (a:Sl)(b:Fv)(c:Hp)(d:Int->Hp->Prop):Prop:=R1 266 #[.slice a.a a.len a.cap,.func (.func b.f) b.first b.captured] [.I] c d
def Ws.c (a:Sl)(b:Fv)(c:Hp)(d:Bool->Hp->Prop):Prop:=R1 268 #[.slice a.a a.len a.cap,.func (.func b.f) b.first b.captured] [.one .b] c d
def Yc.c (a:Int)(b:Addr)(c:Hp)(d:Bool->Hp->Prop):Prop:=R1 269 #[.I a,.pointer (some b)] [.one .b] c d
def Wm.c (a:Sl)(b:Int)(c:Hp)(d:Bool->Hp->Prop):Prop:=R1 270 #[.slice a.a a.len a.cap,.I b] [.one .b] c d
def YP.c (a:R2)(b c:Int)(d:Hp)(e:Sl->Int->Hp->Prop):Prop:=R1 271 #[.pointer a,.I b,.I c] [.one .s,.I] d e
def YE.c (a:R2)(b c:Int)(d e:Bool)(f:Hp)(g:Hp->Prop):Prop:=R1 272 #[.pointer a,.I b,.I c,.agg #[.bool d,.bool e]] [] f g
def Xf.c (a:R2)(b:Int)(c:Hp)(d:Int->Int->Bool->Hp->Prop):Prop:=R1 273 #[.pointer a,.I b] [.I,.I,.one .b] c d
def Y4.c (a:R2)(b:Int)(c:Hp)(d:Int->Hp->Prop):Prop:=R1 275 #[.pointer a,.I b] [.I] c d
def WQ.c (a b c d:Int)(e:Hp)(f:Bool->Hp->Prop):Prop:=R1 276 #[.agg #[.I a,.I b],.agg #[.I c,.I d]] [.one .b] e f
def Y1.c (a:R2)(b:Hp)(c:Int->Int->Hp->Prop):Prop:=R1 277 #[.pointer a] [.I,.I] b c
def XJ.c (a:Sl)(b:Hp)(c:Int->Hp->Prop):Prop:=R1 278 #[.slice a.a a.len a.cap] [.I] b c
def ZF.c (a:Option Nat)(b:Hp)(c:Fv->Hp->Prop):Prop:=R1 279 #[.map a] [.one .fn] b c
def YM.c (a:R2)(b c:Int)(d:Hp)(e:Int->Hp->Prop):Prop:=R1 280 #[.pointer a,.I b,.I c] [.I] d e
def XR.c (a:R2)(b:Int)(c:Hp)(d:Int->Hp->Prop):Prop:=R1 281 #[.pointer a,.I b] [.I] c d
def Qv.c (a:Sl)(b:Int)(c:Hp)(d:Hp->Prop):Prop:=R1 283 #[.slice a.a a.len a.cap,.I b] [] c d
def X6.c (a:R2)(b:Int)(c:Hp)(d:Bool->Int->Hp->Prop):Prop:=R1 285 #[.pointer a,.I b] [.one .b,.I] c d
def YK.c (a:R2)(b c:Int)(d:Hp)(e:Hp->Prop):Prop:=R1 286 #[.pointer a,.I b,.I c] [] d e
def WK.c (a:Sl)(b:Fv)(c:Hp)(d:Int->Hp->Prop):Prop:=R1 295 #[.slice a.a a.len a.cap,.func (.func b.f) b.first b.captured] [.I] c d
def WA.c (a:Sl)(b:Int)(c:Hp)(d:Int->Hp->Prop):Prop:=R1 296 #[.slice a.a a.len a.cap,.I b] [.I] c d
def XW.c (a:R2)(b:Int)(c:Hp)(d:Int->Int->Hp->Prop):Prop:=R1 297 #[.pointer a,.I b] [.I,.I] c d
def YL.c (a:R2)(b:Int)(c:Sl)(d:Hp)(e:Hp->Prop):Prop:=R1 298 #[.pointer a,.I b,.slice c.a c.len c.cap] [] d e
def Wf.c (a:Sl)(b:Fv)(c:Hp)(d:Bool->Hp->Prop):Prop:=R1 300 #[.slice a.a a.len a.cap,.func (.func b.f) b.first b.captured] [.one .b] c d
def Yf.c (a b:Bool)(c:Hp)(d:Bool->Hp->Prop):Prop:=R1 301 #[.agg #[.bool a,.bool b]] [.one .b] c d
def Wl.c (a:Sl)(b:Fv)(c:Hp)(d:Int->Hp->Prop):Prop:=R1 314 #[.slice a.a a.len a.cap,.func (.func b.f) b.first b.captured] [.I] c d
set_option maxRecDepth 100000
def YJ.h:Hn:=.q .o1 (.q (.q .o3 (.c (.q .o1 .l) .l)) (.q .o1 (.q (.q .o6 (.k (.loop [(3,.I),(14,.I)] (.q .o1 (.q (.c .l .l) (.q (.k (.q .o5 .o7)) .o2)))))) (.q .o2 .l))))
def YJ.v (a:R2)(b:Hp)(c:Int->Hp->Prop):Prop:=Xy.c a b λd e=>If (!d) (c 0 e) (NilP a λf=>LdS (f.add 1) e λg=>XL [(.i .i64),(.i .i64)] (λh=>h 0 0 e) λi (j:Int) (k:Int) l=>If (k<((g.len:Nat):Int)) (Ix g.a g.len k 1 λm=>LdM m l λn=>MLen .i64 .b n l λo=>Nn k<|Ar .i64 (o*2^(min k.toNat IntKind.i64.bits)) λp=>Ar .i64 (j+p) λq=>Ar .i64 (k+1) λr=>i q r l) (c j l))
theorem YJ.o {a b c}(d:YJ.v a b c):YJ.c a b c:=Wa Tryz.func110 (x:=YJ.h) (R0 d)
def Xy.h:Hn:=.q .o1 (.q (.reg (.seq [.op,.op,.op,.grd true 5 (RI.ops 5),.op])) .l)
def Xy.v (a:R2)(b:Hp)(c:Bool->Hp->Prop):Prop:=JnB (λd e=>c d e) λf=>If (!a.isNone) (NilP a λg=>LdI .i64 (g.add 0) b λh=>f (decide (h>0)) b) (f false b)
theorem Xy.o {a b c}(d:Xy.v a b c):Xy.c a b c:=Wa Tryz.func142 (x:=Xy.h) (R0 d)
def Qb.h:Hn:=.q .o2 (.q (.q (.reg (.seq [.op,.op,.op,.grd false 2 [.op,.op]])) (.c (.q .o2 .l) .l)) (.q .o4 (.q (.q .o1 (.k (.loop [(5,.I)] (.q (.q .o3 (.c .l .l)) (.q (.k (.o 11)) .o3))))) (.q .o3 .l))))
def Qb.v (a:Int)(b:Hp)(c:Option Addr->Int->Hp->Prop):Prop:=JnB (λd e=>If d (c none 1 e) (Nw (.cells #[.I a,.slice none 0 0] 218 (0,0)) e λf g=>XL [(.i .i64)] (λh=>h 1 g) λi (j:Int) k=>If (j<=a) (NilP (some f) λl=>LdS (l.add 1) k λm=>Nw (.map #[] 0) k λn o=>Nw (.cells #[.map (some n.block)] 219 (0,0)) o λp q=>App m 1 8 219 [.map none] ⟨some p,1,1⟩ q λr s=>NilP (some f) λt=>St1 (t.add 1) (.slice r.a r.len r.cap) s λu=>Ar .i64 (j*2) λv=>i v u) (c (some f) 0 k))) λw=>If (a<1) (w true b) (w (decide (a>1024)) b)
theorem Qb.o {a b c}(d:Qb.v a b c):Qb.c a b c:=Wa Tryz.func154 (x:=Qb.h) (R0 d)
def XN.h:Hn:=.q .o1 (.q (.q .o5 (.q .o2 (.c (.q .o2 .l) .l))) (.q (.q .o2 (.k (.loop [(8,.I)] (.q (.q .o5 (.c .l .l)) (.q (.k (.q .o3 (.c (.q .o1 .l) .l))) .o3))))) (.q .o4 (.q .o1 .l))))
def XN.v (a:R2)(b c:Int)(d:Hp)(e:Int->Hp->Prop):Prop:=Yr.c a b c d λf g=>If (f != 0) (e f g) (XL [(.i .i64)] (λh=>h b g) λi (j:Int) k=>Ar .i64 (b+c) λl=>If (j<l) (X8.c a j k λm n=>If m (e 9 n) (Ar .i64 (j+1) λo=>i o n)) (XU.c a b c k λp=>e 0 p))
theorem XN.o {a b c d e}(f:XN.v a b c d e):XN.c a b c d e:=Wa Tryz.func226 (x:=XN.h) (R0 f)
def Yr.h:Hn:=.q .o1 (.q (.k (.q .o4 (.c (.q .o1 .l) (.q (.reg (.seq [.op,.op,.op,.grd false 2 [.op,.op],.op,.grd false 6 (RI.ops 6),.op,.grd false 8 (RI.ops 8),.op])) (.c (.q .o1 .l) .l))))) (.q .o1 .l))
def Yr.v (a:R2)(b c:Int)(d:Hp)(e:Int->Hp->Prop):Prop:=Xy.c a d λf g=>If (!f) (e 5 g) (JnB (λh i=>JnB (λj k=>JnB (λl m=>If l (e 1 m) (e 0 m)) λn=>If j (n true k) (NilP a λo=>LdI .i64 (o.add 0) k λp=>Ar .i64 (p-b) λq=>n (decide (c>q)) k)) λr=>If h (r true i) (NilP a λs=>LdI .i64 (s.add 0) i λt=>r (decide (b>t)) i)) λu=>If (b<0) (u true g) (u (decide (c<1)) g))
theorem Yr.o {a b c d e}(f:Yr.v a b c d e):Yr.c a b c d e:=Wa Tryz.func241 (x:=Yr.h) (R0 f)
def X8.h:Hn:=.q .o1 (.q (.q (.reg (.seq [.op,.op,.op,.op,.grd false 2 [.op,.op],.op,.grd false 6 (RI.ops 6)])) (.c (.q .o1 .l) .l)) (.q .o10 (.q .o2 .l)))
def X8.v (a:R2)(b:Int)(c:Hp)(d:Bool->Hp->Prop):Prop:=Xy.c a c λe f=>JnB (λg h=>JnB (λi j=>If i (d false j) (Xf.c a b j λk l m n=>d m n)) λo=>If g (o true h) (NilP a λp=>LdI .i64 (p.add 0) h λq=>o (decide (b≥q)) h)) λr=>If (!e) (r true f) (r (decide (b<0)) f)
theorem X8.o {a b c d}(e:X8.v a b c d):X8.c a b c d:=Wa Tryz.func242 (x:=X8.h) (R0 e)
def YY.h:Hn:=.q .o2 (.k (.loop [(6,.I)] (.q (.q .o5 (.c .l .l)) (.k (.q .o10 (.q .o9 (.q .o5 (.q .o6 (.q (.q .o4 (.q .o3 (.c .o6 .l))) .o2)))))))))
def YY.v (a:R2)(b c:Int)(d:Hp)(e:Hp->Prop):Prop:=XL [(.i .i64)] (λf=>f b d) λg (h:Int) i=>Ar .i64 (b+c) λj=>If (h<j) (Xf.c a h i λk l m n=>NilP a λo=>LdS (o.add 1) n λp=>Ix p.a p.len k 1 λq=>LdM q n λr=>MDel .i64 .b r l n λs=>Nn k<|Ar .i64 ((1:Int)*2^(min k.toNat IntKind.i64.bits)) λt=>Ar .i64 (l+t) λu=>Ar .i64 (h-l) λv=>XU.c a l v s λw=>Ar .i64 (b+c) λx=>If (u>x) (Ar .i64 (u-x) λy=>XU.c a x y w λz=>g u z) (g u w)) (e i)
theorem YY.o {a b c d e}(f:YY.v a b c d e):YY.c a b c d e:=Wa Tryz.func243 (x:=YY.h) (R0 f)
def XA.h:Hn:=.q .o2 (.q (.k (.q .o4 (.c (.q .o2 .l) (.q (.reg (.seq [.op,.op,.op,.grd false 2 [.op,.op],.op,.grd false 2 [.op,.op],.op,.grd false 2 [.op,.op],.op,.grd false 5 (RI.ops 5),.op])) (.c (.q .o2 .l) .l))))) (.q (.q .o6 (.k (.loop [(42,.I)] (.q .o1 (.q (.c .l .l) (.q (.k (.q .o5 (.q (.reg (.seq [.op,.op,.op,.op,.op,.op,.op,.grd true 3 (RI.ops 3)])) (.c (.q .o5 (.q .o4 (.q .o3 .l))) .l)))) .o2)))))) (.q .o2 .l)))
def XA.v (a:R2)(b c:Int)(d:Hp)(e:Int->Int->Hp->Prop):Prop:=Xy.c a d λf g=>If (!f) (e 0 5 g) (JnB (λh i=>JnB (λj k=>JnB (λl m=>JnB (λn o=>If n (e 0 1 o) (NilP a λp=>LdS (p.add 1) o λq=>XL [(.i .i64)] (λr=>r 0 o) λs (t:Int) u=>If (t<((q.len:Nat):Int)) (Ix q.a q.len t 1 λv=>LdM v u λw=>Nn t<|Ar .i64 ((1:Int)*2^(min t.toNat IntKind.i64.bits)) λx=>JnB (λy z=>If y (ZF.c w z λaa ab=>Kd.c aa ab λac ad=>XJ.c ac ad λae af=>YY.c a ae b af λag=>e ae 0 ag) (Ar .i64 (t+1) λah=>s ah z)) λai=>If (x≥(if c>b then c else b)) (MLen .i64 .b w u λaj=>ai (decide (aj>0)) u) (ai false u)) (e 0 6 u))) λak=>If l (ak true m) (Ar .i64 (c-1) λal=>ak ((bits .and .i64 c al) != 0) m)) λam=>If j (am true k) (am (decide (c>1024)) k)) λan=>If h (an true i) (an (decide (c<1)) i)) λao=>If (b<1) (ao true g) (ao (decide (b>1024)) g))
theorem XA.o {a b c d e}(f:XA.v a b c d e):XA.c a b c d e:=Wa Tryz.func252 (x:=XA.h) (R0 f)
def XU.h:Hn:=.k (.loop [(1,.I),(2,.I)] (.q (.q .o2 (.c .l .l)) (.k (.q .o1 (.q (.k (.loop [(6,.I)] (.q (.q (.reg (.seq [.op,.op,.op,.op,.op,.op,.op,.op,.op,.op,.grd true 5 (RI.ops 5)])) (.c .l .l)) (.k .o3)))) (.q .o4 (.oq 10)))))))
def XU.v (a:R2)(b c:Int)(d:Hp)(e:Hp->Prop):Prop:=XL [(.i .i64),(.i .i64)] (λf=>f b c d) λg (h:Int) (i:Int) j=>If (i>0) (XL [(.i .i64)] (λk=>k 0 j) λl (m:Int) n=>Ar .i64 (m+1) λo=>Nn o <| Ar .i64 (m+1) λp=>Nn p<|Ar .i64 ((h.fdiv (2^(min o.toNat IntKind.i64.bits)))*2^(min p.toNat IntKind.i64.bits)) λq=>JnB (λr s=>If r (Ar .i64 (m+1) λt=>l t s) (YK.c a m h s λu=>Nn m<|Ar .i64 ((1:Int)*2^(min m.toNat IntKind.i64.bits)) λv=>Ar .i64 (h+v) λw=>Nn m<|Ar .i64 ((1:Int)*2^(min m.toNat IntKind.i64.bits)) λx=>Ar .i64 (i-x) λy=>g w y u)) λz=>If (q==h) (Ar .i64 (m+1) λaa=>Nn aa<|Ar .i64 ((1:Int)*2^(min aa.toNat IntKind.i64.bits)) λab=>z (decide (ab<=i)) n) (z false n)) (e j)
theorem XU.o {a b c d e}(f:XU.v a b c d e):XU.c a b c d e:=Wa Tryz.func265 (x:=XU.h) (R0 f)
def Xf.h:Hn:=.q .o3 (.q (.q .o6 (.k (.loop [(15,.I)] (.q .o1 (.q (.c .l .l) (.q (.k (.q .o5 (.q .o6 (.q .o3 (.c (.q .o5 .l) .l))))) .o2)))))) (.q .o3 .l))
def Xf.v (a:R2)(b:Int)(c:Hp)(d:Int->Int->Bool->Hp->Prop):Prop:=NilP a λe=>LdS (e.add 1) c λf=>XL [(.i .i64)] (λg=>g 0 c) λh (i:Int) j=>If (i<((f.len:Nat):Int)) (Ix f.a f.len i 1 λk=>LdM k j λl=>Nn i <| Nn i<|Ar .i64 ((b.fdiv (2^(min i.toNat IntKind.i64.bits)))*2^(min i.toNat IntKind.i64.bits)) λm=>Lk .i64 .b l m j λn=>If (n.getD false) (d i m true j) (Ar .i64 (i+1) λo=>h o j)) (d 0 0 false j)
theorem Xf.o {a b c d}(e:Xf.v a b c d):Xf.c a b c d:=Wa Tryz.func273 (x:=Xf.h) (R0 e)
def YK.h:Hn:=.q (.k (.loop [(1,.I),(2,.I)] (.q (.q (.reg (.quiet [.op,.op,.op,.op,.op,.op,.op,.op,.op,.grd true 12 (RI.ops 12)])) (.c .l .l)) (.k (.q (.reg (.tail 11 (RI.ops 11) [.op])) (.q .o8 .o3)))))) .o9
def YK.v (a:R2)(b c:Int)(d:Hp)(e:Hp->Prop):Prop:=XL [(.i .i64),(.i .i64)] (λf=>f b c d) λg (h:Int) (i:Int) j=>Ar .i64 (h+1) λk=>NilP a λl=>LdS (l.add 1) j λm=>JnB (λn o=>If n (NilP a λp=>LdS (p.add 1) o λq=>Ix q.a q.len h 1 λr=>LdM r o λs=>Nn h<|Ar .i64 ((1:Int)*2^(min h.toNat IntKind.i64.bits)) λt=>MDel .i64 .b s (bits .xor .i64 i t) o λu=>Ar .i64 (h+1) λv=>Nn v <| Ar .i64 (h+1) λw=>Nn w<|Ar .i64 ((i.fdiv (2^(min v.toNat IntKind.i64.bits)))*2^(min w.toNat IntKind.i64.bits)) λx=>Ar .i64 (h+1) λy=>g y x u) (NilP a λz=>LdS (z.add 1) o λaa=>Ix aa.a aa.len h 1 λab=>LdM ab o λac=>MSet .i64 .b ac i true o λad=>e ad)) λae=>If (k<((m.len:Nat):Int)) (NilP a λaf=>LdS (af.add 1) j λag=>Ix ag.a ag.len h 1 λah=>LdM ah j λai=>Nn h<|Ar .i64 ((1:Int)*2^(min h.toNat IntKind.i64.bits)) λaj=>Lk .i64 .b ai (bits .xor .i64 i aj) j λak=>ae (ak.getD false) j) (ae false j)
theorem YK.o {a b c d e}(f:YK.v a b c d e):YK.c a b c d e:=Wa Tryz.func286 (x:=YK.h) (R0 f)
end Go.Proofs
namespace Go.Proofs
open Go.Vc
set_option maxRecDepth 100000
def Wc.h:Hn:=.q .o1 (.q (.q .o2 (.c (.q .o1 .l) .l)) (.q .o4 .l))
def Wc.v (a:Sl)(b:Hp)(c:Sl->Hp->Prop):Prop:=If a.a.isNone (c ⟨none,0,0⟩ b) (Nw (.cells #[] 31 (0,0)) b λd e=>App ⟨some d,0,0⟩ 3 24 31 [.I 0,.I 0,.I 0] a e λf g=>c f g)
theorem Wc.o {a b c}(d:Wc.v a b c):Wc.c a b c:=Wa Tryz.func68 (x:=Wc.h) (R0 d)
def Wk.h:Hn:=.q .o1 (.q (.q .o3 (.k (.loop [(8,.I)] (.q .o1 (.q (.c .l .l) (.q (.k (.q .o2 (.q .o6 (.c (.q .o2 .l) .l)))) .o2)))))) (.q .o1 .l))
def Wk.v (a:Sl)(b:Fv)(c:Hp)(d:Int->Hp->Prop):Prop:=XL [(.i .i64)] (λe=>e 0 c) λf (g:Int) h=>If (g<((a.len:Nat):Int)) (Ix a.a a.len g 3 λi=>LdI .i64 (i.add 0) h λj=>LdI .i64 (i.add 1) h λk=>LdI .i64 (i.add 2) h λl=>VC Tryz.prog b [.agg #[.I j,.I k,.I l]] [.one .b] h λm n=>If m (d g n) (Ar .i64 (g+1) λo=>f o n)) (d (-1) h)
theorem Wk.o {a b c d}(e:Wk.v a b c d):Wk.c a b c d:=Wa Tryz.func79 (x:=Wk.h) (R0 e)
def WB.h:Hn:=.q .o1 (.q (.q .o2 (.c (.q .o1 .l) .l)) (.q .o4 .l))
def WB.v (a:Sl)(b:Hp)(c:Sl->Hp->Prop):Prop:=If a.a.isNone (c ⟨none,0,0⟩ b) (Nw (.cells #[] 3 (0,0)) b λd e=>App ⟨some d,0,0⟩ 1 8 3 [.I 0] a e λf g=>c f g)
theorem WB.o {a b c}(d:WB.v a b c):WB.c a b c:=Wa Tryz.func90 (x:=WB.h) (R0 d)
def Wj.h:Hn:=.q .o1 (.q (.q .o3 (.k (.loop [(8,.I)] (.q .o1 (.q (.c .l .l) (.q (.k (.q .o2 (.q .o6 (.c (.q .o2 .l) .l)))) .o2)))))) (.q .o1 .l))
def Wj.v (a:Sl)(b:Fv)(c:Hp)(d:Int->Hp->Prop):Prop:=XL [(.i .i64)] (λe=>e 0 c) λf (g:Int) h=>If (g<((a.len:Nat):Int)) (Ix a.a a.len g 1 λi=>LdP i h λj=>VC Tryz.prog b [.pointer j] [.one .b] h λk l=>If k (d g l) (Ar .i64 (g+1) λm=>f m l)) (d (-1) h)
theorem Wj.o {a b c d}(e:Wj.v a b c d):Wj.c a b c d:=Wa Tryz.func111 (x:=Wj.h) (R0 e)
def Xg.h:Hn:=.q .o1 (.q .o1 (.q (.q .o3 (.k (.loop [(3,.I),(11,.I)] (.q .o1 (.q (.c .l .l) (.q (.k (.q .o3 (.q .o5 (.q .o2 (.c .o2 .l))))) .o2)))))) (.q .o3 (.q (.q .o3 (.k (.loop [(6,.one .s),(27,.I)] (.q .o1 (.q (.c .l .l) (.q (.k (.q .o3 .o4)) .o2)))))) (.q .o2 .l)))))
def Xg.v (a:Sl)(b:Hp)(c:Sl->Hp->Prop):Prop:=XL [(.i .i64),(.i .i64)] (λd=>d 0 0 b) λe (f:Int) (g:Int) h=>If (g<((a.len:Nat):Int)) (Ix a.a a.len g 1 λi=>LdS i h λj=>Ar .i64 (f+((j.len:Nat):Int)) λk=>If (k<0) (False) (Ar .i64 (g+1) λl=>e k l h)) (Xj.c ⟨none,0,0⟩ f h λm n=>XL [.s,(.i .i64)] (λo=>o m 0 n) λp (q:Sl) (r:Int) s=>If (r<((a.len:Nat):Int)) (Ix a.a a.len r 1 λt=>LdS t s λu=>App q 1 8 3 [.I 0] u s λv w=>Ar .i64 (r+1) λx=>p v x w) (c q s))
theorem Xg.o {a b c}(d:Xg.v a b c):Xg.c a b c:=Wa Tryz.func140 (x:=Xg.h) (R0 d)
def Wn.h:Hn:=.q .o1 (.q (.q .o2 (.c (.q .o1 .l) .l)) (.q .o4 .l))
def Wn.v (a:Sl)(b:Hp)(c:Sl->Hp->Prop):Prop:=If a.a.isNone (c ⟨none,0,0⟩ b) (Nw (.cells #[] 130 (0,0)) b λd e=>App ⟨some d,0,0⟩ 2 32 130 [.I 0,.slice none 0 0] a e λf g=>c f g)
theorem Wn.o {a b c}(d:Wn.v a b c):Wn.c a b c:=Wa Tryz.func185 (x:=Wn.h) (R0 d)
def Xj.h:Hn:=.q .o1 (.sjn [] (.q .o2 (.c .o2 .l)) (.q (.q .o8 (.q .o2 (.c .o10 .l))) (.q .o2 .l)))
def Xj.v (a:Sl)(b:Int)(c:Hp)(d:Sl->Hp->Prop):Prop:=Jn [] (λe=>Ar .i64 (((a.cap:Nat):Int)-((a.len:Nat):Int)) λf=>Ar .i64 (b-f) λg=>If (g>0) (SlcL a 1 0 ((a.cap:Nat):Int) (a.cap:Nat) λh=>AppZ h 1 8 3 [.I 0] g e λi j=>SlcL i 1 0 ((a.len:Nat):Int) (i.cap:Nat) λk=>d k j) (d a e)) λl=>If (b<0) (False) (l c)
theorem Xj.o {a b c d}(e:Xj.v a b c d):Xj.c a b c d:=Wa Tryz.func201 (x:=Xj.h) (R0 e)
def WO.h:Hn:=.q .o5 (.k (.loop [(2,.I),(3,.I)] (.q (.q .o3 (.c .l .l)) (.q (.k (.reg (.held true [13,15] (.take 0 (.take 1 (.take 2 (.take 3 (.take 4 (.take 5 (.take 6 (.take 7 (.take 8 (.take 9 (.take 10 (.take 11 (.take 12 (.all [(13,.take 14 (.all [(15,.done)]))]))))))))))))))))) .o6))))
def WO.v (a:Sl)(b:Hp)(c:Hp->Prop):Prop:=Ar .i64 (((a.len:Nat):Int)-1) λd=>XL [(.i .i64),(.i .i64)] (λe=>e 0 d b) λf (g:Int) (h:Int) i=>If (g<h) (Held i λj=>Ix a.a a.len h 1 λk=>LdH j (.i .i64) k λ(l:Int)=>Ix a.a a.len g 1 λm=>LdH j (.i .i64) m λ(n:Int)=>Ix a.a a.len g 1 λo=>St1 o (.I l) i λp=>Ix a.a a.len h 1 λq=>St1 q (.I n) p λr=>Ar .i64 (g+1) λs=>Ar .i64 (h-1) λt=>f s t r) (c i)
theorem WO.o {a b c}(d:WO.v a b c):WO.c a b c:=Wa Tryz.func217 (x:=WO.h) (R0 d)
def We.h:Hn:=.q .o1 (.q .o4 (.q (.q .o2 (.c (.q .o2 .l) .l)) (.q (.q .o3 (.k (.loop [(5,.I),(6,.I)] (.q (.q .o4 (.c .l .l)) (.q (.k (.q .o6 (.q .o4 (.c (.q .o5 .o3) .l)))) .o3))))) (.q .o4 (.q .o4 .l)))))
def We.v (a:Sl)(b:Fv)(c:Hp)(d:Sl->Hp->Prop):Prop:=Wh.c a b c λe f=>If (e==(-1)) (d a f) (Ar .i64 (e+1) λg=>XL [(.i .i64),(.i .i64)] (λh=>h e g f) λi (j:Int) (k:Int) l=>If (k<((a.len:Nat):Int)) (Ix a.a a.len k 3 λm=>LdI .i64 (m.add 0) l λn=>LdI .i64 (m.add 1) l λo=>LdP (m.add 2) l λp=>Nw (.cells #[.I 0,.I 0,.pointer none] 210 (0,0)) l λq r=>St1 (q.add 0) (.I n) r λs=>St1 (q.add 1) (.I o) s λt=>St1 (q.add 2) (.pointer p) t λu=>LdI .i64 (q.add 0) u λv=>LdI .i64 (q.add 1) u λw=>LdP (q.add 2) u λx=>VC Tryz.prog b [.agg #[.I v,.I w,.pointer x]] [.one .b] u λy z=>If (!y) (LdI .i64 (q.add 0) z λaa=>LdI .i64 (q.add 1) z λab=>LdP (q.add 2) z λac=>Ix a.a a.len j 3 λad=>St1 (ad.add 0) (.I aa) z λae=>St1 (ad.add 1) (.I ab) ae λaf=>St1 (ad.add 2) (.pointer ac) af λag=>Ar .i64 (j+1) λah=>Ar .i64 (k+1) λai=>i ah ai ag) (Ar .i64 (k+1) λaj=>i j aj z)) (SlcL a 3 j (a.len:Nat) (a.cap:Nat) λak=>Clr ak [.I 0,.I 0,.pointer none] l λal=>SlcL a 3 0 j (a.cap:Nat) λam=>d am al))
theorem We.o {a b c d}(e:We.v a b c d):We.c a b c d:=Wa Tryz.func227 (x:=We.h) (R0 e)
def Wb.h:Hn:=.q .o2 (.q .o3 (.q .o3 (.q (.k (.loop [(9,.I),(10,.I)] (.q (.q .o3 (.c .l .l)) (.k (.q .o7 (.q .o8 (.c .o3 .o2))))))) (.q (.reg (.seq [.op,.op,.op,.op,.op,.grd true 8 (RI.ops 8),.op,.op])) .l))))
def Wb.v (a:Sl)(b:Int)(c:Fv)(d:Hp)(e:Int->Bool->Hp->Prop):Prop:=XL [(.i .i64),(.i .i64)] (λf=>f 0 ((a.len:Nat):Int) d) λg (h:Int) (i:Int) j=>If (h<i) (Ar .i64 (h+i) λk=>Ar .u64 k λl=>Nn (1:Int) <| Ar .i64 (l.fdiv (2^(min (1:Int).toNat IntKind.u64.bits))) λm=>Ix a.a a.len m 3 λn=>LdI .i64 (n.add 0) j λo=>LdI .i64 (n.add 1) j λp=>LdP (n.add 2) j λq=>VC Tryz.prog c [.agg #[.I o,.I p,.pointer q],.I b] [.I] j λr s=>If (r<0) (Ar .i64 (m+1) λt=>g t i s) (g h m s)) (JnB (λu v=>e h u v) λw=>If (h<((a.len:Nat):Int)) (Ix a.a a.len h 3 λx=>LdI .i64 (x.add 0) j λy=>LdI .i64 (x.add 1) j λz=>LdP (x.add 2) j λaa=>VC Tryz.prog c [.agg #[.I y,.I z,.pointer aa],.I b] [.I] j λab ac=>w (ab==0) ac) (w false j))
theorem Wb.o {a b c d e}(f:Wb.v a b c d e):Wb.c a b c d e:=Wa Tryz.func257 (x:=Wb.h) (R0 f)
def Wg.h:Hn:=.q .o1 (.q .o3 (.q .o3 (.q (.q .o2 (.c (.q .o2 .l) .l)) (.q .o3 (.q (.q .o3 (.c (.q .o4 .l) .l)) (.q (.q .o6 (.c (.q .o10 (.q .o5 (.q (.reg (.tail 8 (RI.ops 8) [.op])) (.q .o2 .l)))) .l)) (.q .o6 (.q (.q .o8 (.c (.q (.reg (.tail 8 (RI.ops 8) [.op])) (.q .o5 (.q .o2 .l))) .l)) (.q .o5 (.q .o5 (.q .o2 .l)))))))))))
def Wg.v (a:Sl)(b:Int)(c:Sl)(d:Hp)(e:Sl->Hp->Prop):Prop:=SlcL a 3 b (a.len:Nat) (a.cap:Nat) λf=>If (((c.len:Nat):Int)==0) (e a d) (If (b==((a.len:Nat):Int)) (App a 3 24 210 [.I 0,.I 0,.pointer none] c d λg h=>e g h) (Ar .i64 (((a.len:Nat):Int)+((c.len:Nat):Int)) λi=>If (i>((a.cap:Nat):Int)) (SlcL a 3 0 b (a.cap:Nat) λj=>Ar .i64 (((a.len:Nat):Int)+((c.len:Nat):Int)) λk=>Ar .i64 (k-b) λl=>AppZ j 3 24 210 [.I 0,.I 0,.pointer none] l d λm n=>SlcL m 3 b (m.len:Nat) (m.cap:Nat) λo=>Cpy o 3 c n λp q=>Ar .i64 (b+((c.len:Nat):Int)) λr=>SlcL m 3 r (m.len:Nat) (m.cap:Nat) λs=>SlcL a 3 b (a.len:Nat) (a.cap:Nat) λt=>Cpy s 3 t q λu v=>e m v) (Ar .i64 (((a.len:Nat):Int)+((c.len:Nat):Int)) λw=>SlcL a 3 0 w (a.cap:Nat) λx=>Ar .i64 (b+((c.len:Nat):Int)) λy=>SlcL x 3 y (x.len:Nat) (x.cap:Nat) λz=>ExtB Tryz.prog 282 [.slice c.a c.len c.cap,.slice z.a z.len z.cap] d λaa ab=>If (!aa) (Ar .i64 (b+((c.len:Nat):Int)) λac=>SlcL x 3 ac (x.len:Nat) (x.cap:Nat) λad=>SlcL x 3 b (x.len:Nat) (x.cap:Nat) λae=>Cpy ad 3 ae ab λaf ag=>SlcL x 3 b (x.len:Nat) (x.cap:Nat) λah=>Cpy ah 3 c ag λai aj=>e x aj) (SlcL x 3 ((a.len:Nat):Int) (x.len:Nat) (x.cap:Nat) λak=>Cpy ak 3 c ab λal am=>SlcL x 3 b (x.len:Nat) (x.cap:Nat) λan=>Qv.c an ((c.len:Nat):Int) am λao=>e x ao))))
theorem Wg.o {a b c d e}(f:Wg.v a b c d e):Wg.c a b c d e:=Wa Tryz.func259 (x:=Wg.h) (R0 f)
def W3.h:Hn:=.q .o1 (.q .o7 .l)
def W3.v (a:Sl)(b:Hp)(c:Sl->Hp->Prop):Prop:=SlcL a 1 0 ((a.len:Nat):Int) ((a.len:Nat):Int) λd=>c d b
theorem W3.o {a b c}(d:W3.v a b c):W3.c a b c:=Wa Tryz.func260 (x:=W3.h) (R0 d)
def Wh.h:Hn:=.q .o1 (.q (.q .o3 (.k (.loop [(8,.I)] (.q .o1 (.q (.c .l .l) (.q (.k (.q .o2 (.q .o6 (.c (.q .o2 .l) .l)))) .o2)))))) (.q .o1 .l))
def Wh.v (a:Sl)(b:Fv)(c:Hp)(d:Int->Hp->Prop):Prop:=XL [(.i .i64)] (λe=>e 0 c) λf (g:Int) h=>If (g<((a.len:Nat):Int)) (Ix a.a a.len g 3 λi=>LdI .i64 (i.add 0) h λj=>LdI .i64 (i.add 1) h λk=>LdP (i.add 2) h λl=>VC Tryz.prog b [.agg #[.I j,.I k,.pointer l]] [.one .b] h λm n=>If m (d g n) (Ar .i64 (g+1) λo=>f o n)) (d (-1) h)
theorem Wh.o {a b c d}(e:Wh.v a b c d):Wh.c a b c d:=Wa Tryz.func266 (x:=Wh.h) (R0 e)
def Ws.h:Hn:=.q .o1 (.q .o5 .l)
def Ws.v (a:Sl)(b:Fv)(c:Hp)(d:Bool->Hp->Prop):Prop:=WK.c a b c λe f=>d (decide (e≥0)) f
theorem Ws.o {a b c d}(e:Ws.v a b c d):Ws.c a b c d:=Wa Tryz.func268 (x:=Ws.h) (R0 e)
def Wm.h:Hn:=.q .o1 (.q .o5 .l)
def Wm.v (a:Sl)(b:Int)(c:Hp)(d:Bool->Hp->Prop):Prop:=WA.c a b c λe f=>d (decide (e≥0)) f
theorem Wm.o {a b c d}(e:Wm.v a b c d):Wm.c a b c d:=Wa Tryz.func270 (x:=Wm.h) (R0 e)
def XJ.h:Hn:=.q .o1 (.sjn [] (.q .o3 (.c .o2 .l)) (.q .o4 (.q (.q .o1 (.k (.loop [(3,.I),(4,.I)] (.q (.q .o4 (.c .l .l)) (.q (.k .o7) .o3))))) (.q .o2 .l))))
def XJ.v (a:Sl)(b:Hp)(c:Int->Hp->Prop):Prop:=Jn [] (λd=>Ix a.a a.len 0 1 λe=>LdI .i64 e d λf=>XL [(.i .i64),(.i .i64)] (λg=>g f 1 d) λh (i:Int) (j:Int) k=>If (j<((a.len:Nat):Int)) (Ix a.a a.len j 1 λl=>LdI .i64 l k λm=>Ar .i64 (j+1) λn=>h (if m<i then m else i) n k) (c i k)) λo=>If (((a.len:Nat):Int)<1) (False) (o b)
theorem XJ.o {a b c}(d:XJ.v a b c):XJ.c a b c:=Wa Tryz.func278 (x:=XJ.h) (R0 d)
def WK.h:Hn:=.q .o1 (.q (.q .o3 (.k (.loop [(8,.I)] (.q .o1 (.q (.c .l .l) (.q (.k (.q .o2 (.q .o6 (.c (.q .o2 .l) .l)))) .o2)))))) (.q .o1 .l))
def WK.v (a:Sl)(b:Fv)(c:Hp)(d:Int->Hp->Prop):Prop:=XL [(.i .i64)] (λe=>e 0 c) λf (g:Int) h=>If (g<((a.len:Nat):Int)) (Ix a.a a.len g 1 λi=>LdI .i64 i h λj=>VC Tryz.prog b [.I j] [.one .b] h λk l=>If k (d g l) (Ar .i64 (g+1) λm=>f m l)) (d (-1) h)
theorem WK.o {a b c d}(e:WK.v a b c d):WK.c a b c d:=Wa Tryz.func295 (x:=WK.h) (R0 e)
def WA.h:Hn:=.q .o1 (.q (.q .o3 (.k (.loop [(8,.I)] (.q .o1 (.q (.c .l .l) (.q (.k (.q .o2 (.q .o6 (.c (.q .o2 .l) .l)))) .o2)))))) (.q .o1 .l))
def WA.v (a:Sl)(b:Int)(c:Hp)(d:Int->Hp->Prop):Prop:=XL [(.i .i64)] (λe=>e 0 c) λf (g:Int) h=>If (g<((a.len:Nat):Int)) (Ix a.a a.len g 1 λi=>LdI .i64 i h λj=>If (b==j) (d g h) (Ar .i64 (g+1) λk=>f k h)) (d (-1) h)
theorem WA.o {a b c d}(e:WA.v a b c d):WA.c a b c d:=Wa Tryz.func296 (x:=WA.h) (R0 e)
def Wf.h:Hn:=.q .o1 (.q .o5 .l)
def Wf.v (a:Sl)(b:Fv)(c:Hp)(d:Bool->Hp->Prop):Prop:=Wl.c a b c λe f=>d (decide (e≥0)) f
theorem Wf.o {a b c d}(e:Wf.v a b c d):Wf.c a b c d:=Wa Tryz.func300 (x:=Wf.h) (R0 e)
def Wl.h:Hn:=.q .o1 (.q (.q .o3 (.k (.loop [(8,.I)] (.q .o1 (.q (.c .l .l) (.q (.k (.q .o2 (.q .o6 (.c (.q .o2 .l) .l)))) .o2)))))) (.q .o1 .l))
def Wl.v (a:Sl)(b:Fv)(c:Hp)(d:Int->Hp->Prop):Prop:=XL [(.i .i64)] (λe=>e 0 c) λf (g:Int) h=>If (g<((a.len:Nat):Int)) (Ix a.a a.len g 2 λi=>LdB (i.add 0) h λj=>LdB (i.add 1) h λk=>VC Tryz.prog b [.agg #[.bool j,.bool k]] [.one .b] h λl m=>If l (d g m) (Ar .i64 (g+1) λn=>f n m)) (d (-1) h)
theorem Wl.o {a b c d}(e:Wl.v a b c d):Wl.c a b c d:=Wa Tryz.func314 (x:=Wl.h) (R0 e)
end Go.Proofs
namespace Go.Bu
open Go Go.Vc Go.Proofs
variable {σ:Hp}{p n sb:Nat}{S:Nat->Bool}{ms:List Nat}
theorem shl1 {k:Nat}{K:Int->Prop}(hk:k<=62)(hK:K ((2^k:Nat):Int)):Nn (k:Int) (Ar .i64 (1*2^(min (k:Int).toNat IntKind.i64.bits)) K):=by
 refine nn (by omega) ?_;rw[WaP hk];exact arN (by simp) (WbP hk) hK
theorem shlA {a k:Nat}{K:Int->Prop}(hk:k<=62)(ha:a*2^k<=4611686018427387904)(hK:K ((a*2^k:Nat):Int)):Ar .i64 ((a:Int)*2^(min (k:Int).toNat IntKind.i64.bits)) K:=by
 rw[WaP hk];exact arN (by simp) ha hK
theorem shrl {x k j:Nat}{K:Int->Prop}(hj:j=k)(hk:k<=62)(hx:x<=4611686018427387904)(hK:K ((x/2^k*2^k:Nat):Int)) :
 Ar .i64 (((x:Int).fdiv (2^(min (k:Int).toNat IntKind.i64.bits)))*2^(min (j:Int).toNat IntKind.i64.bits)) K:=by
 subst hj;rw[WaP hk,WdD];refine arN (by simp) ?_ hK;exact ze (zDT _ _) hx
theorem BH.rN (h:BH σ p n S sb ms){K:Int->Prop}(hK:K (n:Int)):LdI .i64 (Addr.add ⟨p,0,none⟩ 0) σ K:=ldI0 h.ldN hK
theorem BH.rB (h:BH σ p n S sb ms){K:Sl->Prop}(hK:∀cap,K ⟨some ⟨sb,0,none⟩,ms.length,cap⟩):LdS (Addr.add ⟨p,0,none⟩ 1) σ K:=by
 obtain⟨cap,hc⟩:=h.ldB;rw[add_lit];exact ldS hc (hK cap)
theorem BH.rM (h:BH σ p n S sb ms){k m:Nat}(hm:ms[k]?=some m){K:Option Nat->Prop}(hK:K (some m)):Ix (some ⟨sb,0,none⟩) ms.length (k:Int) 1 λa=>LdM a σ K:=by
 refine ix (by omega) (by have:=(gSi.1 hm).1;omega) ?_;rw[add_lit];refine ldM ?_ hK;have:=h.ldR hm;simpa using this
theorem WaL (h:BH σ p n S sb ms){R:Bool->Hp->Prop}(hR:R true σ):Xy.c (some ⟨p,0,none⟩) σ R:=by
 refine Xy.o ?_;unfold Xy.v;refine JnB.intro (ifT rfl (nilP (h.rN ?_)));have:=h.n1;rw[zQ (by omega)];exact hR
def YT (n:Nat)(start pages:Int):Bool:=decide (0<=start)&&(decide (1<=pages)&&decide (pages<=n-start))
theorem Wg4 (h:BH σ p n S sb ms)(start pages:Int){R:Int->Hp->Prop}(h0:YT n start pages=true->R 0 σ)(h1:YT n start pages=false->R 1 σ):Yr.c (some ⟨p,0,none⟩) start pages σ R:=by
 refine Yr.o ?_;unfold Yr.v;have bad:¬(0<=start/\1<=pages/\pages<=n-start)->R 1 σ:=λhn=>h1 (by simp only[YT,←zDN];exact zT hn);have n1:=h.n1;have n2:=h.n2;refine WaL h (ifF rfl (JnB.intro ?_));refine ifD (λh1=>JnB.intro (ifT rfl (JnB.intro (ifT rfl (ifT rfl (bad (by omega))))))) λh1=>?_;refine JnB.intro (ifD (λh2=>JnB.intro (ifT rfl (ifT rfl (bad (by omega))))) λh2=>?_);refine nilP (h.rN ?_);refine JnB.intro (ifD (λh3=>ifT rfl (bad (by omega))) λh3=>?_);refine nilP (h.rN (ar (by omega) (by omega) ?_));refine ifD (λh4=>bad (by omega)) λh4=>h0 ?_;simp only[YT,zF,zN];omega
theorem GP (h:BH σ p n S sb ms)(x:Nat)(hx:x<=4611686018427387904){R:Int->Int->Bool->Hp->Prop}
 (h1:∀k q,can S k q=true->x/2^k=q->R (k:Int) ((q*2^k:Nat):Int) true σ) (h0:S x=false->R 0 0 false σ):Xf.c (some ⟨p,0,none⟩) (x:Int) σ R:=by
 refine Xf.o ?_;unfold Xf.v;refine nilP (h.rB λcap=>?_);refine Zw (a:=.i .i64) (λt h'=>∃k:Nat,t=(k:Int)/\k<=ms.length/\h'=σ/\∀j,j<k->can S j (x/2^j)=false) (λt _=>ms.length-t.toNat) ⟨0,rfl,by omega,rfl,λj hj=>by omega⟩ ?_;rintro t h' ⟨k,rfl,hk,rfl,hall⟩;have hl:=h.len;refine ifD (λhlt=>?_) (λhge=>?_)
 ·simp only at hlt;obtain⟨m,hm⟩:=h.get (k:=k) (by omega);refine h.rM hm (nn (by omega) (nn (by omega) (shrl rfl (by omega) hx (h.lk hm rfl ?_))));cases hc:can S k (x/2^k)
  ·refine ifF (by simp) (arN (m:=k+1) (by omega) (by omega) ?_);refine⟨⟨k+1,rfl,by omega,rfl,λj hj=>?_⟩,by omega⟩;by_cases e:j=k
   ·rw[e];exact hc
   ·exact hall j (by omega)
  ·exact ifT (by simp) (h1 k _ hc rfl)
 ·simp only at hge;refine h0 ?_;cases hs:S x
  ·rfl
  ·obtain⟨j,hj⟩:=KC h.bnd hs;have:=h.fits (Zd h.bnd (Y8.1 hj).1);rw[hall j (by omega)]at hj;cases hj
def isF (S:Nat->Bool)(x:Int):Bool:=decide (0<=x)&&S x.toNat
theorem Wgc (h:BH σ p n S sb ms)(x:Int){R:Bool->Hp->Prop}(hR:R (isF S x) σ):X8.c (some ⟨p,0,none⟩) x σ R:=by
 refine X8.o ?_;unfold X8.v;have n2:=h.n2;refine WaL h (JnB.intro (ifF rfl ?_));refine JnB.intro (ifD (λh1=>ifT rfl ?_) λh1=>nilP (h.rN ?_))
 ·have:isF S x=false:=by simp[isF];intro;omega
  rw[this]at hR;exact hR
 ·refine ifD (λh2=>?_) λh2=>?_
  ·have:isF S x=false:=by
    simp only[isF];cases hs:S x.toNat
    ·simp
    ·have:=h.bnd _ hs;omega
   rw[this]at hR;exact hR
  ·obtain⟨y,rfl⟩:=zi (show 0<=x by omega);have e:isF S (y:Int)=S y:=by simp[isF]
   rw[e]at hR;refine GP h y (by omega) (λk q hc hq=>?_) λhs=>?_
   ·rw[QV hc hq]at hR;exact hR
   ·rw[hs]at hR;exact hR
theorem WkI {k q:Nat}(h:BH σ p n S sb ms)(hf:q*2^k+2^k<=n)(hd:∀x,x/2^k=q->S x=false){R:Hp->Prop}
 (hR:∀σ',Ext (· ∈ ms) σ σ'->BH σ' p n (ins S k q) sb ms->R σ'):YK.c (some ⟨p,0,none⟩) (k:Int) ((q*2^k:Nat):Int) σ R:=by
 refine YK.o ?_;unfold YK.v;refine Ks (a:=.i .i64) (bb:=.i .i64)
  (λo s h'=>∃(j r:Nat) (T:Nat->Bool),o=(j:Int)/\s=((r*2^j:Nat):Int)/\r*2^j+2^j<=n/\BH h' p n T sb ms/\Ext (· ∈ ms) σ h'/\(∀x,x/2^j=r->T x=false)/\ins T j r=ins S k q)
  (λo _ _=>ms.length-o.toNat) ⟨k,q,S,rfl,rfl,hf,h,Ext.refl _ _,hd,rfl⟩ ?_
 rintro o s h' ⟨j,r,T,rfl,rfl,hjf,hT,hE,hdT,hins⟩;have hl:=hT.len;have hj:=hT.fits hjf;have hn2:=hT.n2;have hpj:=zv j;obtain⟨m,hm⟩:=hT.get hj;have last:¬full (ins T j r) (j+1) (r/2)=true->(NilP (some ⟨p,0,none⟩) λa49=>LdS (a49.add 1) h' λt51=>Ix t51.a t51.len (j:Int) 1 λa53=>LdM a53 h' λt54=>MSet .i64 .b t54 ((r*2^j:Nat):Int) true h' λv3=>R v3):=by
  intro hup;refine nilP (hT.rB λcap=>hT.rM hm ?_);refine hT.msetR hm hdT hup hjf rfl λh'' e hB=>hR h'' (hE.trans e) ?_;rw[←hins];exact hB
 refine arN (m:=j+1) (by omega) (by omega) (nilP (hT.rB λcap=>JnB.intro ?_));refine ifD (λhlt=>?_) (λhge=>?_)
 ·simp only at hlt;refine nilP (hT.rB λcap=>hT.rM hm (shl1 (by omega) ?_));have hp62:=WbP (show j<=62 by omega);have hx:bits .xor .i64 ((r*2^j:Nat):Int) ((2^j:Nat):Int)=((mate r*2^j:Nat):Int):=by
   rw[WbH (by omega) (by omega),Wg1]
  rw[hx];refine hT.lk hm rfl ?_;cases hc:can T j (mate r)
  ·refine ifF (by simp) (last (Wi7 hdT (by simp[hc])))
  ·refine ifT (by simp) ?_;refine nilP (hT.rB λcap=>hT.rM hm (shl1 (by omega) ?_));rw[hx];refine hT.mdelR hm hc rfl λh'' e hB=>?_;refine arN (m:=j+1) (by omega) (by omega) (nn (by omega) (arN (m:=j+1) (by omega) (by omega) (nn (by omega) ?_)));refine shrl rfl (by omega) (by omega) ?_;refine arN (m:=j+1) (by omega) (by omega) ⟨⟨j+1,r/2,del T j (mate r),rfl,?_,?_,hB,hE.trans e,?_,?_⟩,by omega⟩
   ·rw[zAN,←zCO,QG]
   ·-- both halves lie within
    have h1:=Zd hT.bnd (Y8.1 hc).1;have e2:r/2*2^(j+1)=(r/2*2)*2^j:=by rw[zAN,Nat.mul_comm (2^j) 2,←zDY]
    rw[e2,zAN];have hup:(r/2*2)+1=r\/(r/2*2)+1=mate r:=by unfold mate;split<;>omega
    have e3:(r/2*2)*2^j+2^j*2=((r/2*2)+1)*2^j+2^j:=by rw[zc];omega
    rw[e3];rcases hup with e4|e4<;>rw[e4]<;>assumption
   ·intro x hx;rcases VV.1 hx with h1|h1
    ·simp[del,hdT x h1]
    ·simp[del,h1]
   ·rw[←hins];refine HE λx=>?_;rw[Kv,Kv,Kt,VV];by_cases h1:x/2^j=mate r
    ·simp[h1,QV hc h1]
    ·simp[h1]
 ·simp only at hge;refine ifF rfl (last λhup=>?_);have:=Zd (WeZ hT.bnd hjf) hup;have h1:2^ms.length<=2^(j+1):=zAI (by decide) (by omega);have:=hT.hi;omega
theorem Wcu {a m:Nat}(h:BH σ p n S sb ms)(hf:a+m<=n)(hd:∀x,a<=x->x<a+m->S x=false){R:Hp->Prop}
 (hR:∀σ',Ext (· ∈ ms) σ σ'->BH σ' p n (give S a (a+m)) sb ms->R σ'):XU.c (some ⟨p,0,none⟩) (a:Int) (m:Int) σ R:=by
 refine XU.o ?_;unfold XU.v;have hn2:=h.n2;refine Ks (a:=.i .i64) (bb:=.i .i64)
  (λs c h'=>∃(a' m':Nat),s=(a':Int)/\c=(m':Int)/\a<=a'/\a'+m'=a+m/\BH h' p n (give S a a') sb ms/\Ext (· ∈ ms) σ h')
  (λ_ c _=>c.toNat) ⟨a,m,rfl,rfl,by omega,rfl,by rw[Wim];exact h,Ext.refl _ _⟩ ?_
 rintro s c h' ⟨a',m',rfl,rfl,haa,ham,hB,hE⟩;refine ifD (λhpos=>?_) (λhz=>?_)
 ·refine Zw (a:=.i .i64) (λk h''=>∃j q:Nat,k=(j:Int)/\a'=q*2^j/\2^j<=m'/\h''=h') (λk _=>12-k.toNat) ⟨0,a',rfl,by simp,by simp;omega,rfl⟩ ?_;rintro k h'' ⟨j,q,rfl,hq,hjm,rfl⟩;have hj:j<=10:=by
   apply Classical.byContradiction;intro hc;have:2^11<=2^j:=zAI (by decide) (by omega);omega
  refine arN (m:=j+1) (by omega) (by omega) (nn (by omega) (arN (m:=j+1) (by omega) (by omega) (nn (by omega) ?_)));refine shrl rfl (by omega) (by omega) (JnB.intro ?_);have stop:(YK.c (some ⟨p,0,none⟩) (j:Int) (a':Int) h'' λv3=>
   Nn (j:Int)<|Ar .i64 (1*2^(min (j:Int).toNat IntKind.i64.bits)) λt33=>Ar .i64 ((a':Int)+t33) λstart2=>
   Nn (j:Int)<|Ar .i64 (1*2^(min (j:Int).toNat IntKind.i64.bits)) λt37=>Ar .i64 ((m':Int)-t37) λpages2=>
   (∃(a'' m'':Nat),start2=(a'':Int)/\pages2=(m'':Int)/\a<=a''/\a''+m''=a+m/\BH v3 p n (give S a a'') sb ms/\Ext (· ∈ ms) σ v3)/\pages2.toNat<(m':Int).toNat):=by
   subst hq;refine WkI hB (by omega) (λx hx=>?_) λv3 e hB'=>?_
   ·have:=Zv.1 hx;have h1:=hd x (by omega) (by omega);simp only[give,h1,zEW];rw[zT (show ¬x<q*2^j by omega),zCU]
   ·have hpos2:=zv j;refine shl1 (by omega) (arN (m:=q*2^j+2^j) (by omega) (by omega) (shl1 (by omega) (arN (m:=m'-2^j) (by omega) (by omega) ?_)));refine⟨⟨_,_,rfl,rfl,by omega,by omega,?_,hE.trans e⟩,by omega⟩;rw[WgW,WfX haa (by omega)]at hB';exact hB'
  refine iff_ (λhe=>?_) (λhe=>ifF rfl stop);have he':a'/2^(j+1)*2^(j+1)=a':=by
   have:=zS.1 he
   exact_mod_cast this
  refine arN (m:=j+1) (by omega) (by omega) (shl1 (by omega) ?_);refine ifD (λhle=>?_) λ_=>stop;refine arN (m:=j+1) (by omega) (by omega) ⟨⟨j+1,a'/2^(j+1),rfl,he'.symm,by omega,rfl⟩,by omega⟩
 ·have:m'=0:=by omega
  subst this;have:a'=a+m:=by omega
  subst this;exact hR h' hE hB
theorem Wk0 {a m:Nat}(h:BH σ p n S sb ms)(hf:a+m<=n)(hd:∀x,a<=x->x<a+m->S x=true){R:Hp->Prop}
 (hR:∀σ',Ext (· ∈ ms) σ σ'->BH σ' p n (take S a (a+m)) sb ms->R σ'):YY.c (some ⟨p,0,none⟩) (a:Int) (m:Int) σ R:=by
 refine YY.o ?_;unfold YY.v;have hn2:=h.n2;refine Zw (a:=.i .i64) (λs h'=>∃x:Nat,s=(x:Int)/\a<=x/\BH h' p n (take S a (min x (a+m))) sb ms/\Ext (· ∈ ms) σ h')
  (λs _=>a+m-s.toNat) ⟨a,rfl,by omega,by rw[zBZ (by omega),Whi];exact h,Ext.refl _ _⟩ ?_
 rintro s h' ⟨x,rfl,hax,hB,hE⟩;refine arN (m:=a+m) (by omega) (by omega) ?_;refine ifD (λhlt=>?_) (λhge=>?_)
 ·rw[zBZ (by omega)]at hB;have hx:take S a x x=true:=QD.2 ⟨hd x hax (by omega),by omega⟩;refine GP hB x (by omega) (λk q hc hq=>?_) (λhs=>by rw[hx]at hs;cases hs);have hfb:=Zd hB.bnd (Y8.1 hc).1;have hk:=hB.fits hfb;have hl:=hB.len;obtain⟨mm,hm⟩:=hB.get hk;have hin:=Zv.1 hq;refine nilP (hB.rB λcap=>hB.rM hm ?_);refine hB.mdelR hm hc rfl λh1 e1 hB1=>?_;refine shl1 (by omega) (arN (m:=q*2^k+2^k) (by omega) (by omega) (arN (m:=x-q*2^k) (by omega) (by omega) ?_));refine Wcu hB1 (by omega) (λy hy1 hy2=>?_) λh2 e2 hB2=>?_
  ·have:y/2^k=q:=Zv.2 (by omega);simp[del,this]
  ·have hE2:=(hE.trans e1).trans e2;rw[show q*2^k+(x-q*2^k)=x by omega]at hB2;have hblk:∀y,q*2^k<=y/\y<q*2^k+2^k->S y=true/\¬(a<=y/\y<x):=λy hy=>QD.1 (QV hc (Zv.2 hy));refine arN (m:=a+m) (by omega) (by omega) (ifD (λhgt=>?_) λhle=>?_)
   ·refine arN (m:=q*2^k+2^k-(a+m)) (by omega) (by omega) ?_;refine Wcu hB2 (by omega) (λy hy1 hy2=>?_) λh3 e3 hB3=>?_
    ·have:y/2^k=q:=Zv.2 (by omega);have hxy:¬y<x:=by omega
     simp[give,del,this,hxy]
    ·refine⟨⟨_,rfl,by omega,?_,hE2.trans e3⟩,by omega⟩;rw[Nat.min_eq_right (by omega)];have:give (give (del (take S a x) k q) (q*2^k) x) (a+m) (a+m+(q*2^k+2^k-(a+m)))=take S a (a+m):=by
      refine HE λy=>?_;have hy:=hblk y;simp only[Qq,Kt,QD,Ne,Zv];generalize q*2^k=A at *;generalize 2^k=E at *;cases hs:S y
      ·rw[hs]at hy;simp only[zZ,false_and,false_or,iff_false,imp_false]at hy ⊢;omega
      ·rw[hs]at hy;simp only[zCZ]at hy ⊢;omega
     rw[this]at hB3;exact hB3
   ·refine⟨⟨_,rfl,by omega,?_,hE2⟩,by omega⟩;rw[zBZ (by omega)];have:give (del (take S a x) k q) (q*2^k) x=take S a (q*2^k+2^k):=by
     refine HE λy=>?_;have hy:=hblk y;simp only[Qq,Kt,QD,Ne,Zv];generalize q*2^k=A at *;generalize 2^k=E at *;cases hs:S y
     ·rw[hs]at hy;simp only[zZ,false_and,false_or,iff_false,imp_false]at hy ⊢;omega
     ·rw[hs]at hy;simp only[zCZ]at hy ⊢;omega
    rw[this]at hB2;exact hB2
 ·rw[Nat.min_eq_right (by omega)]at hB;exact hR h' hE hB
def Gw (S:Nat->Bool)(a m:Nat):Bool:=(List.range m).all λi=>!S (a+i)
theorem Q6 {S:Nat->Bool}{a m:Nat}:Gw S a m=true↔∀x,a<=x->x<a+m->S x=false:=by
 simp only[Gw,zw,zW,zAO];exact⟨λh x h1 h2=>by have:=h (x-a) (by omega);rwa [show a+(x-a)=x by omega]at this,λh i hi=>h _ (by omega) (by omega)⟩
theorem Whm {S:Nat->Bool}{a m x:Nat}(h1:a<=x)(h2:x<a+m)(h:S x=true):Gw S a m=false:=by
 cases e:Gw S a m
 ·rfl
 ·rw[Q6.1 e x h1 h2]at h;cases h
def WhR (n:Nat)(S:Nat->Bool)(a m:Int):Int:=if YT n a m then(if Gw S a.toNat m.toNat then 0 else 9)else 1
def ZU (n:Nat)(S:Nat->Bool)(a m:Int):Nat->Bool:=if YT n a m&&Gw S a.toNat m.toNat then give S a.toNat (a.toNat+m.toNat)else S
theorem WeX {n:Nat}{a m:Int}(h:YT n a m=true):∃x y:Nat,a=(x:Int)/\m=(y:Int)/\1<=y/\x+y<=n:=by
 simp only[YT,zF,zN]at h;exact⟨a.toNat,m.toNat,by omega,by omega,by omega,by omega⟩
theorem Give_ok (h:BH σ p n S sb ms)(a m:Int){R:Int->Hp->Prop}
 (hR:∀σ',Ext (· ∈ ms) σ σ'->BH σ' p n (ZU n S a m) sb ms->R (WhR n S a m) σ'):XN.c (some ⟨p,0,none⟩) a m σ R:=by
 refine XN.o ?_;unfold XN.v;have hn2:=h.n2;refine Wg4 h a m (λhok=>ifF rfl ?_) (λhok=>ifT rfl ?_)
 ·obtain⟨x,y,rfl,rfl,hy,hxy⟩:=WeX hok;refine Zw (a:=.i .i64) (λt h'=>∃z:Nat,t=(z:Int)/\x<=z/\h'=σ/\∀u,x<=u->u<z->S u=false) (λt _=>x+y-t.toNat) ⟨x,rfl,by omega,rfl,λu _ _=>by omega⟩ ?_;rintro t h' ⟨z,rfl,hz,rfl,hall⟩;refine arN (m:=x+y) (by omega) (by omega) ?_;refine ifD (λhlt=>Wgc h _ ?_) (λhge=>?_)
  ·have e:isF S (z:Int)=S z:=by simp[isF]
   rw[e];cases hs:S z
   ·refine ifF rfl (arN (m:=z+1) (by omega) (by omega) ⟨⟨z+1,rfl,by omega,rfl,λu h1 h2=>?_⟩,by omega⟩);by_cases e:u=z
    ·rw[e];exact hs
    ·exact hall u h1 (by omega)
   ·refine ifT rfl ?_;have hno:=Whm (m:=y) hz (by omega) hs;have:=hR h' (Ext.refl _ _);simp only[WhR,ZU,hok,iTn,hno,zCU,zP,zZ,zq]at this;exact this h
  ·have hall':∀u,x<=u->u<x+y->S u=false:=λu h1 h2=>hall u h1 (by omega);have hno:=Q6.2 hall';refine Wcu h hxy hall' λh1 e1 hB=>?_;have:=hR h1 e1;simp only[WhR,ZU,hok,iTn,hno,zDH,zP]at this;exact this hB
 ·have:=hR σ (Ext.refl _ _);simp only[WhR,ZU,hok,zDO,zZ,zq]at this;exact this h
theorem Wjy {n:Nat}{S:Nat->Bool}(hb:Bounded S n)(K:Nat):sums n S K<=n:=by
 rw[Us hb];exact ze zEH (by simp)
theorem Free_ok (h:BH σ p n S sb ms){R:Int->Hp->Prop}(hR:R ((cnt n S:Nat):Int) σ):YJ.c (some ⟨p,0,none⟩) σ R:=by
 refine YJ.o ?_;unfold YJ.v;have hn2:=h.n2;have hl:=h.len;refine WaL h (ifF rfl (nilP (h.rB λcap=>?_)));refine Ks (a:=.i .i64) (bb:=.i .i64) (λc t h'=>∃k:Nat,c=((sums n S k:Nat):Int)/\t=(k:Int)/\k<=ms.length/\h'=σ) (λ_ t _=>ms.length-t.toNat) ⟨0,rfl,rfl,by omega,rfl⟩ ?_;rintro c t h' ⟨k,rfl,rfl,hk,rfl⟩;have hs1:=Wjy h.bnd (k+1);have hs:sums n S (k+1)=sums n S k+many n S k*2^k:=rfl;refine ifD (λhlt=>?_) (λhge=>?_)
 ·simp only at hlt;obtain⟨m,hm⟩:=h.get (k:=k) (by omega);refine h.rM hm (h.mlen hm (nn (by omega) (shlA (by omega) (by omega) ?_)));refine arN (m:=sums n S (k+1)) (by omega) (by omega) (arN (m:=k+1) (by omega) (by omega) ⟨⟨k+1,rfl,rfl,by omega,rfl⟩,by omega⟩)
 ·simp only at hge;have:k=ms.length:=by omega
  subst this;rw[Wh0 h.bnd h.hi];exact hR
end Go.Bu
namespace Go.Ar
open Go.Bu
def GV (n:Nat)(h:Int):Bool:=decide (0<=h)&&decide (h<((n/16:Nat):Int))
def addE (st:List Nat)(h:Int):Int:=if GV st.length h then(if st.getD (16*h.toNat) 0=0 then 0 else 5)else 1
def addT (st:List Nat)(h:Int):List Nat:=if addE st h=0 then setR st (16*h.toNat) (16*h.toNat+16) 3 else st
def Wer (st:List Nat)(a m:Nat)(fr:List Nat):Bool:=((st.drop a).take m).all fr.contains
def HA (st:List Nat)(a m:Int)(fr:List Nat):Int:=if YT st.length a m then(if Wer st a.toNat m.toNat fr then 0 else 5)else 1
def Vj (st:List Nat)(a m:Int)(v:Nat)(fr:List Nat):List Nat:=if HA st a m fr=0 then setR st a.toNat (a.toNat+m.toNat) v else st
def Wly (st:List Nat)(h:Nat):Nat:=if cntR st (16*h) (16*h+16) 1=0 then 0 else if 0<cntR st (16*h) (16*h+16) 3 then 1 else 2
def WlP (st:List Nat)(k:Nat):List Nat:=(List.range (st.length/16)).filter λh=>st.getD (16*h) 0 != 0&&Wly st h==k
def used (st:List Nat)(h:Nat):Nat:=cntR st (16*h) (16*h+16) 1
structure Sp where
 st:List Nat
 wd:Nat->Int
 pk:Nat
def Sp.set (s:Sp)(a m v:Nat):Sp:={s with st:=setR s.st a (a+m) v,wd:=λw=>if a*32<=w/\w<(a+m)*32 then 0 else s.wd w}
def mapE (s:Sp)(a m:Int):Int:=if YT s.st.length a m then(if((s.st.drop a.toNat).take m.toNat).any (· != 0)then 5 else 0)else 1
def mapS (s:Sp)(a m:Int):Sp:=if mapE s a m=0 then s.set a.toNat m.toNat 1 else s
end Go.Ar
namespace Go.Ar
structure Li where
 os:List Int
 lim:Nat
 low:Nat
 deriving DecidableEq
def liN:Li:=⟨[],1,0⟩
structure LiOk (l:Li):Prop where
 low:l.low<=l.os.length
 many:l.os.length<=256
 lim:l.lim<=128
 lim1:1<=l.lim
def oldL (m:Nat)(l:Li):List Int×Li:=(l.os.take m,{l with os:=l.os.drop m,low:=min l.low (l.os.length-m)})
def upL (c:Cls)(l:Li):Li:=if l.lim<c.batch then{l with lim:=l.lim+1}else l
def Qk (c:Cls)(l:Li):Option Int×Li:=match l.os.getLast? with
 | none=>(none,if l.lim<c.batch then{l with lim:=l.lim+1}else{l with lim:=min (l.lim+c.batch) 128})
 | some x=>(some x,{l with os:=l.os.dropLast,low:=min l.low (l.os.length-1)})
def Hy (c:Cls)(l:Li):Nat:=min l.lim c.batch
def addL (xs:List Int)(l:Li):Li:=if l.os.length+xs.length>256 then l else{l with os:=l.os++xs}
def putL (c:Cls)(x:Int)(l:Li):List Int×Li:=
 if l.os.length+1>256 then([],l)
 else if l.os.length+1<=l.lim then([],addL [x] l)
 else oldL (min c.batch (l.os.length+1)) (upL c (addL [x] l))
def QM (c:Cls)(l:Li):List Int×Li:=
 ((oldL ((l.low+1)/2) l).1,{os:=(oldL ((l.low+1)/2) l).2.os,lim:=if l.lim>c.batch then max (l.lim-c.batch) c.batch else l.lim,low:=(oldL ((l.low+1)/2) l).2.os.length})
def Zj (_:Cls)(l:Li):List Int×Li:=oldL l.os.length l
abbrev Bt:=Nat×List Int
def Qj (f:Cls->Li->List Int×Li)(tb:List Cls)(ls:List Li):List Bt:=(List.range tb.length).filterMap λk=>match tb[k]?,ls[k]? with
 | some c,some l=>if(f c l).1=[]then none else some (k,(f c l).1)
 | _,_=>none
def Qi (f:Cls->Li->List Int×Li)(tb:List Cls)(ls:List Li):List Li:=List.zipWith (λc l=>(f c l).2) tb ls
def ZI (tb:List Cls)(ls:List Li):Nat:=((tb.zip ls).map λx=>x.1.size*x.2.os.length).sum
theorem LiOk.nil:LiOk liN:=⟨zD _,by decide,by decide,by decide⟩
theorem Wa6 {m:Nat}{l:Li}(h:LiOk l):LiOk (oldL m l).2:=by
 have h1:=h.low;have h2:=h.many;refine⟨?_,?_,h.lim,h.lim1⟩
 ·simp only[oldL,zz];omega
 ·simp only[oldL,zz];omega
theorem Wc1 {c:Cls}{l:Li}(hc:c.ok)(h:LiOk l):LiOk (Qk c l).2:=by
 have h1:=h.low;have h2:=h.many;have h3:=h.lim;have h4:=h.lim1;unfold Cls.ok at hc;unfold Qk;split
 ·split
  ·exact⟨h1,h2,by simp only;omega,by simp only;omega⟩
  ·exact⟨h1,h2,by simp only;omega,by simp only;omega⟩
 ·exact⟨by simp only[zFX];omega,by simp only[zFX];omega,h3,h4⟩
theorem Wa5 {xs:List Int}{l:Li}(h:LiOk l):LiOk (addL xs l):=by
 have h1:=h.low;have h2:=h.many;unfold addL;split
 ·exact h
 ·exact⟨by simp only[zJ];omega,by simp only[zJ];omega,h.lim,h.lim1⟩
theorem WiN {c:Cls}{l:Li}(hc:c.ok)(h:LiOk l):LiOk (upL c l):=by
 have h3:=h.lim;unfold Cls.ok at hc;unfold upL;split
 ·exact⟨h.low,h.many,by simp only;omega,by simp only;omega⟩
 ·exact h
theorem Wi2 {c:Cls}{x:Int}{l:Li}(hc:c.ok)(h:LiOk l):LiOk (putL c x l).2:=by
 unfold putL;split
 ·exact h
 ·split
  ·exact Wa5 h
  ·exact Wa6 (WiN hc (Wa5 h))
theorem WdQ {c:Cls}{l:Li}(hc:c.ok)(h:LiOk l):LiOk (QM c l).2:=by
 have h2:=(Wa6 (m:=(l.low+1)/2) h).many;have h3:=h.lim;have h4:=h.lim1;unfold Cls.ok at hc;refine⟨zD _,h2,?_,?_⟩<;>simp only[QM]<;>split<;>omega
theorem Wfx {c:Cls}{l:Li}(h:LiOk l):LiOk (Zj c l).2:=Wa6 h
theorem Wf7 (c:Cls)(hc:c.ok):QM c liN=([],liN):=by
 unfold Cls.ok at hc;simp[QM,liN,oldL];omega
theorem Wd7 (c:Cls):Zj c liN=([],liN):=by simp[Zj,liN,oldL]
def TrA.rem (t:TrA):TrA:={low:=min t.low (t.bs.length-1),bs:=t.bs.dropLast}
def TrA.tick (t:TrA):TrA:={low:=(t.bs.drop ((t.low+1)/2)).length,bs:=t.bs.drop ((t.low+1)/2)}
def TrA.out (t:TrA):List (List Int):=t.bs.take ((t.low+1)/2)
end Go.Ar
namespace Go.Proofs
open Go.Vc
set_option maxRecDepth 100000
def YN.h:Hn:=.q .o1 (.q (.q (.reg (.seq [.op,.op,.op,.op,.grd false 2 [.op,.op],.op,.grd false 2 [.op,.op]])) (.c (.q .o1 .l) .l)) (.q .o9 (.q (.q (.reg (.seq [.op,.op,.op,.grd false 8 (RI.ops 8)])) (.c (.q .o1 .l) .l)) (.q (.o 13) .l))))
def YN.v (a:R2)(b:Int)(c:Hp)(d:Int->Hp->Prop):Prop:=Xr.c a c λe f=>JnB (λg h=>JnB (λi j=>If i (d 0 j) (Nz 8<|Ar .i64 (b.tdiv 8) λk=>Nz 8<|Ar .i64 (k.tdiv 8) λl=>NilP a λm=>IxA (m.add 1) 16 l 1 λn=>LdP n j λo=>JnB (λp q=>If p (d 0 q) (Nz 8<|Ar .i64 (b.tdiv 8) λr=>Nz 8 <| NilP o λs=>IxA s 8 (r.tmod 8) 1 λt=>LdP t q λu=>Nz 8 <| NilP u λv=>IxA v 8 (b.tmod 8) 1 λw=>LdI .i64 w q λx=>d x q)) λy=>If o.isNone (y true j) (Nz 8<|Ar .i64 (b.tdiv 8) λz=>Nz 8 <| NilP o λaa=>IxA aa 8 (z.tmod 8) 1 λab=>LdP ab j λac=>y ac.isNone j))) λad=>If g (ad true h) (ad (decide (b≥1024)) h)) λae=>If (!e) (ae true f) (ae (decide (b<0)) f)
theorem YN.o {a b c d}(e:YN.v a b c d):YN.c a b c d:=Wa Tryz.func114 (x:=YN.h) (R0 e)
def Xr.h:Hn:=.q .o1 (.q (.reg (.seq [.op,.op,.op,.grd true 4 (RI.ops 4),.op])) .l)
def Xr.v (a:R2)(b:Hp)(c:Bool->Hp->Prop):Prop:=JnB (λd e=>c d e) λf=>If (!a.isNone) (NilP a λg=>LdB (g.add 0) b λh=>f h b) (f false b)
theorem Xr.o {a b c}(d:Xr.v a b c):Xr.c a b c:=Wa Tryz.func144 (x:=Xr.h) (R0 d)
def Zz.h:Hn:=.q .o1 (.q .o3 .l)
def Zz.v (a:Hp)(b:Option Addr->Hp->Prop):Prop:=Nw (.cells #[.bool true,.pointer none,.pointer none,.pointer none,.pointer none,.pointer none,.pointer none,.pointer none,.pointer none,.pointer none,.pointer none,.pointer none,.pointer none,.pointer none,.pointer none,.pointer none,.pointer none] 223 (0,0)) a λc d=>b (some c) d
theorem Zz.o {a b}(c:Zz.v a b):Zz.c a b:=Wa Tryz.func150 (x:=Zz.h) (R0 c)
def Yl.h:Hn:=.q .o1 (.q (.k (.q .o4 (.c (.q .o1 .l) (.q (.reg (.seq [.op,.op,.op,.grd false 2 [.op,.op],.op,.grd false 2 [.op,.op],.op,.grd false 4 (RI.ops 4),.op])) (.c (.q .o1 .l) .l))))) (.q (.q .o2 (.k (.loop [(9,.I)] (.q (.q .o5 (.c .l .l)) (.q (.k .o4) .o3))))) (.q .o1 .l)))
def Yl.v (a:R2)(b c d:Int)(e:Hp)(f:Int->Hp->Prop):Prop:=Xr.c a e λg h=>If (!g) (f 5 h) (JnB (λi j=>JnB (λk l=>JnB (λm n=>If m (f 1 n) (XL [(.i .i64)] (λo=>o b n) λp (q:Int) r=>Ar .i64 (b+c) λs=>If (q<s) (YF.c a q d r λt=>Ar .i64 (q+1) λu=>p u t) (f 0 r))) λv=>If k (v true l) (Ar .i64 (1024-b) λw=>v (decide (c>w)) l)) λx=>If i (x true j) (x (decide (b>1024)) j)) λy=>If (b<0) (y true h) (y (decide (c<1)) h))
theorem Yl.o {a b c d e f}(g:Yl.v a b c d e f):Yl.c a b c d e f:=Wa Tryz.func152 (x:=Yl.h) (R0 g)
def YF.h:Hn:=.q .o9 (.q .o8 (.q .o7 (.sjn [] (.q .o5 (.c .o7 .l)) (.q .o5 (.c .o8 .l)))))
def YF.v (a:R2)(b c:Int)(d:Hp)(e:Hp->Prop):Prop:=Nz 8<|Ar .i64 (b.tdiv 8) λf=>Nz 8<|Ar .i64 (f.tdiv 8) λg=>NilP a λh=>IxA (h.add 1) 16 g 1 λi=>Wq.c (some i) d λj k=>Nz 8<|Ar .i64 (b.tdiv 8) λl=>Nz 8 <| NilP j λm=>IxA m 8 (l.tmod 8) 1 λn=>Wu.c (some n) k λo p=>Nz 8 <| NilP o λq=>IxA q 8 (b.tmod 8) 1 λr=>St1 r (.I c) p λs=>Jn [] (λt=>NilP j λu=>LdP (u.add 0) t λv=>LdP (u.add 1) t λw=>LdP (u.add 2) t λx=>LdP (u.add 3) t λy=>LdP (u.add 4) t λz=>LdP (u.add 5) t λaa=>LdP (u.add 6) t λab=>LdP (u.add 7) t λac=>If (v.isNone&&(w.isNone&&(x.isNone&&(y.isNone&&(z.isNone&&(aa.isNone&&(ab.isNone&&(ac.isNone&&true)))))))) (Nz 8<|Ar .i64 (b.tdiv 8) λad=>Nz 8<|Ar .i64 (ad.tdiv 8) λae=>NilP a λaf=>IxA (af.add 1) 16 ae 1 λag=>St1 ag (.pointer none) t λah=>e ah) (e t)) λai=>NilP o λaj=>LdI .i64 (aj.add 0) s λak=>LdI .i64 (aj.add 1) s λal=>LdI .i64 (aj.add 2) s λam=>LdI .i64 (aj.add 3) s λan=>LdI .i64 (aj.add 4) s λao=>LdI .i64 (aj.add 5) s λap=>LdI .i64 (aj.add 6) s λaq=>LdI .i64 (aj.add 7) s λar=>If ((ak==0)&&((al==0)&&((am==0)&&((an==0)&&((ao==0)&&((ap==0)&&((aq==0)&&((ar==0)&&true)))))))) (Nz 8<|Ar .i64 (b.tdiv 8) λau=>Nz 8 <| NilP j λav=>IxA av 8 (au.tmod 8) 1 λaw=>St1 aw (.pointer none) s λax=>ai ax) (ai s)
theorem YF.o {a b c d e}(f:YF.v a b c d e):YF.c a b c d e:=Wa Tryz.func204 (x:=YF.h) (R0 f)
def Xz.h:Hn:=.q .o1 (.q .o5 .l)
def Xz.v (a:R2)(b c:Int)(d:Hp)(e:Int->Hp->Prop):Prop:=Yl.c a b c 0 d λf g=>e f g
theorem Xz.o {a b c d e}(f:Xz.v a b c d e):Xz.c a b c d e:=Wa Tryz.func224 (x:=Xz.h) (R0 f)
def Wq.h:Hn:=.q .o1 (.sjn [] (.q .o4 (.c .o4 .l)) (.q .o4 .l))
def Wq.v (a:R2)(b:Hp)(c:Option Addr->Hp->Prop):Prop:=Jn [] (λd=>NilP a λe=>LdP e d λf=>c f d) λg=>NilP a λh=>LdP h b λi=>If i.isNone (Nw (.cells #[.pointer none,.pointer none,.pointer none,.pointer none,.pointer none,.pointer none,.pointer none,.pointer none] 329 (0,0)) b λj k=>NilP a λl=>St1 l (.pointer (some j)) k λm=>g m) (g b)
theorem Wq.o {a b c}(d:Wq.v a b c):Wq.c a b c:=Wa Tryz.func247 (x:=Wq.h) (R0 d)
def Wu.h:Hn:=.q .o1 (.sjn [] (.q .o4 (.c .o4 .l)) (.q .o4 .l))
def Wu.v (a:R2)(b:Hp)(c:Option Addr->Hp->Prop):Prop:=Jn [] (λd=>NilP a λe=>LdP e d λf=>c f d) λg=>NilP a λh=>LdP h b λi=>If i.isNone (Nw (.cells #[.I 0,.I 0,.I 0,.I 0,.I 0,.I 0,.I 0,.I 0] 333 (0,0)) b λj k=>NilP a λl=>St1 l (.pointer (some j)) k λm=>g m) (g b)
theorem Wu.o {a b c}(d:Wu.v a b c):Wu.c a b c:=Wa Tryz.func248 (x:=Wu.h) (R0 d)
def XP.h:Hn:=.q .o1 (.q (.q (.reg (.seq [.op,.op,.op,.grd true 6 [.op,.op,.op,.grd false 2 [.op,.op]]])) (.c (.q .o1 .l) .l)) (.q .o6 .l))
def XP.v (a:R2)(b c d:Int)(e:Hp)(f:Int->Hp->Prop):Prop:=Xr.c a e λg h=>JnB (λi j=>If i (f 1 j) (Yl.c a b c d j λk l=>f k l)) λm=>If g (JnB (λn o=>m n o) λp=>If (d<1) (p true h) (p (decide (d>1073741824)) h)) (m false h)
theorem XP.o {a b c d e f}(g:XP.v a b c d e f):XP.c a b c d e f:=Wa Tryz.func255 (x:=XP.h) (R0 g)
end Go.Proofs
namespace Go.Ar
open Go Go.Vc Go.Proofs
open Go.Bu (YT)
variable {σ:Hp}{F:Rg}{p:Nat}{M Lf:Nat->Option Nat}{ow:Nat->Nat}
def upd {α:Type}(f:Nat->α)(k:Nat)(v:α):Nat->α:=λi=>if i=k then v else f i
theorem Y9 {α:Type}(f:Nat->α)(k:Nat)(v:α):upd f k v k=v:=by simp[upd]
theorem ZG {α:Type}(f:Nat->α){k i:Nat}(v:α)(h:i≠k):upd f k v i=f i:=by simp[upd,h]
theorem Qu {α:Type}(f:Nat->α)(n k:Nat)(v:α):((List.range n).map f).set k v=(List.range n).map (upd f k v):=by
 apply zn;intro i;by_cases hik:i=k
 ·subst hik;rcases zAB i n with h|h
  ·rw[zK (by simpa using h)];simp[zBB h,upd]
  ·rw[zV (by simpa using h),zV (by simpa using h)]
 ·rw[zf (Ne.symm hik)];simp only[za];rcases zAB i n with h|h
  ·simp[zBB h,upd,hik]
  ·simp[zV (show(List.range n).length<=i by simpa using h)]
theorem Ql {α:Type}(f:Nat->α){n k:Nat}(h:k<n):((List.range n).map f)[k]?=some (f k):=by simp[zBB h]
def ptr (o:Option Nat):Value:=.pointer (o.map λq=>⟨q,0,none⟩)
structure PmS (σ:Hp) (F:Rg) (p:Nat) (M Lf:Nat->Option Nat) (ow:Nat->Nat):Prop where
 hd:Blk σ p (.bool true::(List.range 16).map λi=>ptr (M i))
 mid:∀i q,i<16->M i=some q->Blk σ q ((List.range 8).map λj=>ptr (Lf (8*i+j)))
 midN:∀i,i<16->M i=none->∀j,j<8->Lf (8*i+j)=none
 leaf:∀k q,k<128->Lf k=some q->Blk σ q ((List.range 8).map λj=>.int .i64 ((ow (8*k+j):Nat):Int))
 leafN:∀k,k<128->Lf k=none->∀j,j<8->ow (8*k+j)=0
 fp:F p
 fm:∀i q,i<16->M i=some q->F q/\q≠p
 fl:∀k q,k<128->Lf k=some q->F q/\q≠p
 mm:∀i j q,i<16->j<16->M i=some q->M j=some q->i=j
 ll:∀i j q,i<128->j<128->Lf i=some q->Lf j=some q->i=j
 ml:∀i k q,i<16->k<128->M i=some q->Lf k≠some q
def PmH (σ:Hp)(F:Rg)(p:Nat)(ow:Nat->Nat):Prop:=∃M Lf,PmS σ F p M Lf ow
theorem PmS.move {σ':Hp}{G:Rg}(h:PmS σ F p M Lf ow)(hb:∀b,b<σ.size->F b->σ'[b]?=σ[b]?)(hg:∀b,b<σ.size->F b->G b):PmS σ' G p M Lf ow:=by
 have kb:∀{b:Nat} {cs:List Value},Blk σ b cs->F b->Blk σ' b cs:=by
  rintro b cs ⟨e,he⟩ hf;exact⟨e,(hb b (Blk.lt ⟨e,he⟩) hf).trans he⟩
 exact⟨kb h.hd h.fp,λi q hi hq=>kb (h.mid i q hi hq) (h.fm i q hi hq).1,h.midN,λk q hk hq=>kb (h.leaf k q hk hq) (h.fl k q hk hq).1,h.leafN,hg p h.hd.lt h.fp,
  λi q hi hq=>⟨hg q (h.mid i q hi hq).lt (h.fm i q hi hq).1,(h.fm i q hi hq).2⟩,λk q hk hq=>⟨hg q (h.leaf k q hk hq).lt (h.fl k q hk hq).1,(h.fl k q hk hq).2⟩,h.mm,h.ll,h.ml⟩
theorem PmH.loc:Lcl λσ F=>PmH σ F p ow:=λσ σ' F G ⟨M,Lf,h⟩ hz hs=>⟨M,Lf,h.move (λb hb hf=>(hs b hb hf).2) λb hb hf=>(hs b hb hf).1⟩
theorem PmH.congr {ow':Nat->Nat}(h:PmH σ F p ow)(he:∀x,x<1024->ow x=ow' x):PmH σ F p ow':=by
 obtain⟨M,Lf,h⟩:=h;refine⟨M,Lf,h.hd,h.mid,h.midN,λk q hk hq=>?_,λk hk hq j hj=>?_,h.fp,h.fm,h.fl,h.mm,h.ll,h.ml⟩
 ·have:=h.leaf k q hk hq;have e:((List.range 8).map λj=>Value.int .i64 ((ow (8*k+j):Nat):Int))=(List.range 8).map λj=>Value.int .i64 ((ow' (8*k+j):Nat):Int):=by
   apply zy;intro j hj;rw[zW]at hj;rw[he _ (by omega)]
  rw[←e];exact this
 ·rw[←he _ (by omega)];exact h.leafN k hk hq j hj
theorem Wca (h:PmH σ F p ow){R:Bool->Hp->Prop}(hR:R true σ):Xr.c (some ⟨p,0,none⟩) σ R:=by
 refine Xr.o ?_;unfold Xr.v;obtain⟨M,Lf,h⟩:=h;exact JnB.intro (ifT rfl (nilP (h.hd.rB rfl hR)))
theorem ixA {a:Addr}{n i sz:Nat}{K:Addr->Prop}(hi:i<n)(hK:K (a.add (i*sz))):IxA a n (i:Int) sz K:=⟨by omega,by omega,by simpa using hK⟩
theorem PmS.rM (h:PmS σ F p M Lf ow){i:Nat}(hi:i<16){K:Option Addr->Prop}(hK:K ((M i).map λq=>⟨q,0,none⟩)):LdP ⟨p,1+i,none⟩ σ K:=by
 refine h.hd.rP0 ?_ hK;rw[Nat.add_comm,zFY,Ql _ hi];rfl
theorem PmS.rL (h:PmS σ F p M Lf ow){i j q:Nat}(hi:i<16)(hq:M i=some q)(hj:j<8){K:Option Addr->Prop}(hK:K ((Lf (8*i+j)).map λq=>⟨q,0,none⟩)):LdP ⟨q,j,none⟩ σ K:=
 (h.mid i q hi hq).rP0 (Ql _ hj) hK
theorem PmS.rN (h:PmS σ F p M Lf ow){k j q:Nat}(hk:k<128)(hq:Lf k=some q)(hj:j<8){K:Int->Prop}(hK:K ((ow (8*k+j):Nat):Int)):LdI .i64 ⟨q,j,none⟩ σ K:=
 (h.leaf k q hk hq).rI0 (Ql _ hj) hK
def owI (ow:Nat->Nat)(x:Int):Nat:=if 0<=x/\x<1024 then ow x.toNat else 0
theorem WkG (h:PmH σ F p ow)(x:Int){R:Int->Hp->Prop}(hR:R ((owI ow x:Nat):Int) σ):YN.c (some ⟨p,0,none⟩) x σ R:=by
 refine YN.o ?_;unfold YN.v;have hg:=h;obtain⟨M,Lf,h⟩:=h;refine Wca hg (JnB.intro (ifF rfl (JnB.intro (ifD (λhn=>ifT rfl ?_) λhn=>?_))))
 ·have:owI ow x=0:=by unfold owI;rw[zA (by omega)]
  rw[this]at hR;exact hR
 refine ifD (λhge=>?_) λhlt=>?_
 ·have:owI ow x=0:=by unfold owI;rw[zA (by omega)]
  rw[this]at hR;exact hR
 obtain⟨y,rfl⟩:=zi (show 0<=x by omega);have hy:y<1024:=by omega
 have hv:owI ow (y:Int)=ow y:=by unfold owI;rw[zB (by omega)];rfl
 rw[hv]at hR;have t1:((y:Int).tdiv 8)=((y/8:Nat):Int):=by rw[YQ (by omega)];simp
 have t2:(((y/8:Nat):Int).tdiv 8)=((y/8/8:Nat):Int):=by rw[YQ (by omega)];simp
 have t3:(((y/8:Nat):Int).tmod 8)=((y/8%8:Nat):Int):=by rw[Qw (by omega)];simp
 have t4:((y:Int).tmod 8)=((y%8:Nat):Int):=by rw[Qw (by omega)];simp
 have hk:8*(y/8/8)+y/8%8=y/8:=by omega
 have hk2:8*(y/8)+y%8=y:=by omega
 refine nz (by decide) (arN t1 (by omega) (nz (by decide) (arN t2 (by omega) (nilP ?_))));refine ixA (by omega) ?_;rw[add_lit,add_lit,zG,zAX];refine h.rM (by omega) (JnB.intro ?_);cases hM:M (y/8/8)with
 | none=>
  refine ifT rfl (ifT rfl ?_);have hN:=h.midN _ (by omega) hM (y/8%8) (by omega);rw[hk]at hN;have:=h.leafN _ (by omega) hN (y%8) (by omega);rw[hk2]at this;rw[this]at hR;exact hR
 | some q=>
  refine ifF rfl (nz (by decide) (arN t1 (by omega) (nz (by decide) (nilP ?_))));rw[t3];refine ixA (by omega) ?_;rw[add_lit,zG,zAX];refine h.rL (by omega) hM (by omega) ?_;rw[hk];cases hL:Lf (y/8)with
  | none=>
   refine ifT rfl ?_;have:=h.leafN _ (by omega) hL (y%8) (by omega);rw[hk2]at this;rw[this]at hR;exact hR
  | some r=>
   refine ifF rfl (nz (by decide) (arN t1 (by omega) (nz (by decide) (nilP ?_))));rw[t3];refine ixA (by omega) ?_;rw[add_lit,zG,zAX];refine h.rL (by omega) hM (by omega) ?_;rw[hk,hL];refine nz (by decide) (nilP ?_);rw[t4];refine ixA (by omega) ?_;rw[add_lit,zG,zAX];refine h.rN (by omega) hL (by omega) ?_;rw[hk2];exact hR
theorem Wjr {R:Option Addr->Hp->Prop}(hR:∀σ' p,Ext0 σ σ'->σ.size<=p->PmH σ' (λb=>σ.size<=b) p (λ_=>0)->R (some ⟨p,0,none⟩) σ'):Zz.c σ R:=by
 refine Zz.o ?_;unfold Zz.v;refine nw (cs:=[.bool true,.pointer none,.pointer none,.pointer none,.pointer none,.pointer none,.pointer none,.pointer none,.pointer none,.pointer none,.pointer none,.pointer none,.pointer none,.pointer none,.pointer none,.pointer none,.pointer none]) λv hz e hb=>?_;refine hR v _ e (zD _) ⟨λ_=>none,λ_=>none,hb,?_,?_,?_,?_,zD _,?_,?_,?_,?_,?_⟩<;>intros<;>simp_all
theorem Wf3 (h:PmS σ F p M Lf ow){i:Nat}(hi:i<16){R:Option Addr->Hp->Prop}
 (hR:∀σ' M' q,Ext F σ σ'->M' i=some q->PmS σ' (Grow F σ) p M' Lf ow->R (some ⟨q,0,none⟩) σ'):Wq.c (some ⟨p,1+i,none⟩) σ R:=by
 refine Wq.o ?_;unfold Wq.v;refine Jn.intro (nilP (h.rM hi ?_));cases hM:M i with
 | some q=>exact ifF rfl (nilP (h.rM hi (by rw[hM];exact hR σ M q (Ext.refl _ _) hM (h.move (λ_ _ _=>rfl) λ_ _ hf=>.inl hf))))
 | none=>
  refine ifT rfl (nw (cs:=[.pointer none,.pointer none,.pointer none,.pointer none,.pointer none,.pointer none,.pointer none,.pointer none]) λv1 hz e1 hb1=>nilP ?_);have hp:=h.hd.lt;refine(e1.blk h.hd id).s0 (by simp;omega) λv2 o2 hb2=>?_;have hset:(Value.bool true::(List.range 16).map λi=>ptr (M i)).set (1+i) (.pointer (some ⟨σ.size,0,none⟩))=.bool true::(List.range 16).map λj=>ptr (upd M i (some σ.size) j):=by
   rw[Nat.add_comm,zCL,Qu]
   congr 1
   apply zy;intro j _;simp only[upd];split<;>rfl
  rw[hset]at hb2;have old:∀{b:Nat} {cs:List Value},Blk σ b cs->b≠p->Blk v2 b cs:=λhb hn=>Wr o2 (e1.blk hb id) hn;have h2:PmS v2 (Grow F σ) p (upd M i (some σ.size)) Lf ow:=by
   refine⟨hb2,λj q hj hq=>?_,λj hj hq=>?_,λk q hk hq=>old (h.leaf k q hk hq) (h.fl k q hk hq).2,h.leafN,.inl h.fp,λj q hj hq=>?_,λk q hk hq=>⟨.inl (h.fl k q hk hq).1,(h.fl k q hk hq).2⟩,λj k q hj hk hq1 hq2=>?_,h.ll,λj k q hj hk hq=>?_⟩
   ·by_cases hji:j=i
    ·subst hji;rw[Y9]at hq;cases hq;have hn:=h.midN j hj hM;have:((List.range 8).map λk=>ptr (Lf (8*j+k)))=[.pointer none,.pointer none,.pointer none,.pointer none,.pointer none,.pointer none,.pointer none,.pointer none]:=by
      have:((List.range 8).map λk=>ptr (Lf (8*j+k)))=(List.range 8).map λ_=>Value.pointer none:=by
       apply zy;intro k hk;rw[zW]at hk;rw[hn k hk];rfl
      rw[this];rfl
     rw[this];exact Wr o2 hb1 (by omega)
    ·rw[ZG _ _ hji]at hq;exact old (h.mid j q hj hq) (h.fm j q hj hq).2
   ·by_cases hji:j=i
    ·subst hji;rw[Y9]at hq;cases hq
    ·rw[ZG _ _ hji]at hq;exact h.midN j hj hq
   ·by_cases hji:j=i
    ·subst hji;rw[Y9]at hq;cases hq;exact⟨.inr (zD _),by omega⟩
    ·rw[ZG _ _ hji]at hq;exact⟨.inl (h.fm j q hj hq).1,(h.fm j q hj hq).2⟩
   ·by_cases hji:j=i
    ·by_cases hki:k=i
     ·omega
     ·subst hji;rw[Y9]at hq1;cases hq1;rw[ZG _ _ hki]at hq2;have:=(h.mid k _ hk hq2).lt;omega
    ·rw[ZG _ _ hji]at hq1;by_cases hki:k=i
     ·subst hki;rw[Y9]at hq2;cases hq2;have:=(h.mid j _ hj hq1).lt;omega
     ·rw[ZG _ _ hki]at hq2;exact h.mm j k q hj hk hq1 hq2
   ·by_cases hji:j=i
    ·subst hji;rw[Y9]at hq;cases hq;intro hl;have:=(h.leaf k _ hk hl).lt;omega
    ·rw[ZG _ _ hji]at hq;exact h.ml j k q hj hk hq
  refine nilP (h2.rM hi ?_);rw[Y9];exact hR v2 _ σ.size (e1.to.trans (o2.ext.sub λb hb=>hb▸h.fp)) (Y9 _ _ _) h2
theorem Wd2 (h:PmS σ F p M Lf ow){i j q:Nat}(hi:i<16)(hj:j<8)(hq:M i=some q){R:Option Addr->Hp->Prop}
 (hR:∀σ' L' r,Ext F σ σ'->L' (8*i+j)=some r->PmS σ' (Grow F σ) p M L' ow->R (some ⟨r,0,none⟩) σ'):Wu.c (some ⟨q,j,none⟩) σ R:=by
 refine Wu.o ?_;unfold Wu.v;have hk:8*i+j<128:=by omega
 refine Jn.intro (nilP (h.rL hi hq hj ?_));cases hL:Lf (8*i+j)with
 | some r=>exact ifF rfl (nilP (h.rL hi hq hj (by rw[hL];exact hR σ Lf r (Ext.refl _ _) hL (h.move (λ_ _ _=>rfl) λ_ _ hf=>.inl hf))))
 | none=>
  refine ifT rfl (nw (cs:=[.int .i64 0,.int .i64 0,.int .i64 0,.int .i64 0,.int .i64 0,.int .i64 0,.int .i64 0,.int .i64 0]) λv1 hz e1 hb1=>nilP ?_);have hm:=h.mid i q hi hq;have hql:=hm.lt;have hf:=h.fm i q hi hq;refine(e1.blk hm id).s0 (by simp;omega) λv2 o2 hb2=>?_;have old:∀{b:Nat} {cs:List Value},Blk σ b cs->b≠q->Blk v2 b cs:=λhb hn=>Wr o2 (e1.blk hb id) hn;have h2:PmS v2 (Grow F σ) p M (upd Lf (8*i+j) (some σ.size)) ow:=by
   refine⟨old h.hd (Ne.symm hf.2),λi' q' hi' hq'=>?_,λi' hi' hq' j' hj'=>?_,λk r hk' hr=>?_,λk hk' hr=>?_,.inl h.fp,λi' q' hi' hq'=>⟨.inl (h.fm i' q' hi' hq').1,(h.fm i' q' hi' hq').2⟩,λk r hk' hr=>?_,h.mm,λk k' r hk1 hk2 hr1 hr2=>?_,λi' k q' hi' hk' hq'=>?_⟩
   ·by_cases hii:i'=i
    ·subst hii;rw[hq]at hq';cases hq';rw[Qu]at hb2;have:((List.range 8).map (upd (λj=>ptr (Lf (8*i'+j))) j (.pointer (some ⟨σ.size,0,none⟩))))=(List.range 8).map λk=>ptr (upd Lf (8*i'+j) (some σ.size) (8*i'+k)):=by
      apply zy;intro k _;simp only[upd];by_cases hkj:k=j
      ·subst hkj;simp[ptr]
      ·have:¬8*i'+k=8*i'+j:=by omega
       simp[hkj,this]
     rw[this]at hb2;exact hb2
    ·have hne:q'≠q:=λe=>by subst e;exact hii (h.mm i' i q' hi' hi hq' hq)
     have:=old (h.mid i' q' hi' hq') hne;have e:((List.range 8).map λk=>ptr (upd Lf (8*i+j) (some σ.size) (8*i'+k)))=(List.range 8).map λk=>ptr (Lf (8*i'+k)):=by
      apply zy;intro k hk';rw[zW]at hk';rw[ZG _ _ (by omega)]
     rw[e];exact this
   ·have hne:i'≠i:=λe=>by subst e;rw[hq]at hq';cases hq'
    rw[ZG _ _ (by omega)];exact h.midN i' hi' hq' j' hj'
   ·by_cases hkk:k=8*i+j
    ·subst hkk;rw[Y9]at hr;cases hr;have hn:=h.leafN _ hk hL;have:((List.range 8).map λj'=>Value.int .i64 ((ow (8*(8*i+j)+j'):Nat):Int))=[.int .i64 0,.int .i64 0,.int .i64 0,.int .i64 0,.int .i64 0,.int .i64 0,.int .i64 0,.int .i64 0]:=by
      have:((List.range 8).map λj'=>Value.int .i64 ((ow (8*(8*i+j)+j'):Nat):Int))=(List.range 8).map λ_=>Value.int .i64 0:=by
       apply zy;intro k hk';rw[zW]at hk';rw[hn k hk'];rfl
      rw[this];rfl
     rw[this];exact Wr o2 hb1 (by omega)
    ·rw[ZG _ _ hkk]at hr;exact old (h.leaf k r hk' hr) λe=>by subst e;exact h.ml i k r hi hk' hq hr
   ·by_cases hkk:k=8*i+j
    ·subst hkk;rw[Y9]at hr;cases hr
    ·rw[ZG _ _ hkk]at hr;exact h.leafN k hk' hr
   ·by_cases hkk:k=8*i+j
    ·subst hkk;rw[Y9]at hr;cases hr;have:=h.hd.lt;exact⟨.inr (zD _),by omega⟩
    ·rw[ZG _ _ hkk]at hr;exact⟨.inl (h.fl k r hk' hr).1,(h.fl k r hk' hr).2⟩
   ·by_cases e1':k=8*i+j
    ·by_cases e2':k'=8*i+j
     ·omega
     ·subst e1';rw[Y9]at hr1;cases hr1;rw[ZG _ _ e2']at hr2;have:=(h.leaf k' _ hk2 hr2).lt;omega
    ·rw[ZG _ _ e1']at hr1;by_cases e2':k'=8*i+j
     ·subst e2';rw[Y9]at hr2;cases hr2;have:=(h.leaf k _ hk1 hr1).lt;omega
     ·rw[ZG _ _ e2']at hr2;exact h.ll k k' r hk1 hk2 hr1 hr2
   ·by_cases hkk:k=8*i+j
    ·subst hkk;rw[Y9];intro e;cases e;have:=(h.mid i' _ hi' hq').lt;omega
    ·rw[ZG _ _ hkk];exact h.ml i' k q' hi' hk' hq'
  refine nilP (h2.rL hi hq hj ?_);rw[Y9];exact hR v2 _ σ.size (e1.to.trans (o2.ext.sub λb hb=>hb▸hf.1)) (Y9 _ _ _) h2
theorem WiA (h:PmS σ F p M Lf ow){k r j no:Nat}(hk:k<128)(hr:Lf k=some r)(hj:j<8){σ':Hp}(ho:ZY σ σ' r)(hb:Blk σ' r (((List.range 8).map λj=>Value.int .i64 ((ow (8*k+j):Nat):Int)).set j (.int .i64 (no:Int)))) :
 PmS σ' F p M Lf (upd ow (8*k+j) no):=by
 refine⟨Wr ho h.hd (Ne.symm (h.fl k r hk hr).2),λi q hi hq=>Wr ho (h.mid i q hi hq) λe=>by subst e;exact h.ml i k q hi hk hq hr,h.midN,λk' r' hk' hr'=>?_,λk' hk' hr' j' hj'=>?_,h.fp,h.fm,h.fl,h.mm,h.ll,h.ml⟩
 ·by_cases hkk:k'=k
  ·subst hkk;rw[hr]at hr';cases hr';rw[Qu]at hb;have:((List.range 8).map (upd (λj=>Value.int .i64 ((ow (8*k'+j):Nat):Int)) j (.int .i64 (no:Int))))=(List.range 8).map λj'=>Value.int .i64 ((upd ow (8*k'+j) no (8*k'+j'):Nat):Int):=by
    apply zy;intro a _;simp only[upd];by_cases haj:a=j
    ·subst haj;simp
    ·have:¬8*k'+a=8*k'+j:=by omega
     simp[haj,this]
   rw[this]at hb;exact hb
  ·have hne:r'≠r:=λe=>by subst e;exact hkk (h.ll k' k r' hk' hk hr' hr)
   have:=Wr ho (h.leaf k' r' hk' hr') hne;have e:((List.range 8).map λa=>Value.int .i64 ((upd ow (8*k+j) no (8*k'+a):Nat):Int))=(List.range 8).map λa=>Value.int .i64 ((ow (8*k'+a):Nat):Int):=by
    apply zy;intro a ha;rw[zW]at ha;rw[ZG _ _ (by omega)]
   rw[e];exact this
 ·have hne:k'≠k:=λe=>by subst e;rw[hr]at hr';cases hr'
  rw[ZG _ _ (by omega)];exact h.leafN k' hk' hr' j' hj'
theorem Wgi (h:PmS σ F p M Lf ow){i j q:Nat}(hi:i<16)(hj:j<8)(hq:M i=some q)(hz:∀a,a<8->ow (8*(8*i+j)+a)=0){σ':Hp}(ho:ZY σ σ' q)(hb:Blk σ' q (((List.range 8).map λj=>ptr (Lf (8*i+j))).set j (.pointer none))) :
 PmS σ' F p M (upd Lf (8*i+j) none) ow:=by
 have hf:=h.fm i q hi hq;refine⟨Wr ho h.hd (Ne.symm hf.2),λi' q' hi' hq'=>?_,λi' hi' hq' j' hj'=>?_,λk r hk hr=>?_,λk hk hr=>?_,h.fp,h.fm,λk r hk hr=>?_,h.mm,λk k' r hk1 hk2 hr1 hr2=>?_,λi' k q' hi' hk' hq'=>?_⟩
 ·by_cases hii:i'=i
  ·subst hii;rw[hq]at hq';cases hq';rw[Qu]at hb;have:((List.range 8).map (upd (λj=>ptr (Lf (8*i'+j))) j (.pointer none)))=(List.range 8).map λk=>ptr (upd Lf (8*i'+j) none (8*i'+k)):=by
    apply zy;intro k _;simp only[upd];by_cases hkj:k=j
    ·subst hkj;simp[ptr]
    ·have:¬8*i'+k=8*i'+j:=by omega
     simp[hkj,this]
   rw[this]at hb;exact hb
  ·have hne:q'≠q:=λe=>by subst e;exact hii (h.mm i' i q' hi' hi hq' hq)
   have:=Wr ho (h.mid i' q' hi' hq') hne;have e:((List.range 8).map λk=>ptr (upd Lf (8*i+j) none (8*i'+k)))=(List.range 8).map λk=>ptr (Lf (8*i'+k)):=by
    apply zy;intro k hk';rw[zW]at hk';rw[ZG _ _ (by omega)]
   rw[e];exact this
 ·simp only[upd];split
  ·rfl
  ·exact h.midN i' hi' hq' j' hj'
 ·by_cases hkk:k=8*i+j
  ·subst hkk;rw[Y9]at hr;cases hr
  ·rw[ZG _ _ hkk]at hr;exact Wr ho (h.leaf k r hk hr) λe=>by subst e;exact h.ml i k r hi hk hq hr
 ·by_cases hkk:k=8*i+j
  ·subst hkk;exact hz
  ·rw[ZG _ _ hkk]at hr;exact h.leafN k hk hr
 ·by_cases hkk:k=8*i+j
  ·subst hkk;rw[Y9]at hr;cases hr
  ·rw[ZG _ _ hkk]at hr;exact h.fl k r hk hr
 ·by_cases e1':k=8*i+j
  ·subst e1';rw[Y9]at hr1;cases hr1
  ·rw[ZG _ _ e1']at hr1;by_cases e2':k'=8*i+j
   ·subst e2';rw[Y9]at hr2;cases hr2
   ·rw[ZG _ _ e2']at hr2;exact h.ll k k' r hk1 hk2 hr1 hr2
 ·by_cases hkk:k=8*i+j
  ·subst hkk;rw[Y9];intro e;cases e
  ·rw[ZG _ _ hkk];exact h.ml i' k q' hi' hk' hq'
theorem Wh7 (h:PmS σ F p M Lf ow){i:Nat}(hi:i<16)(hz:∀j,j<8->Lf (8*i+j)=none){σ':Hp}(ho:ZY σ σ' p)(hb:Blk σ' p ((Value.bool true::(List.range 16).map λi=>ptr (M i)).set (1+i) (.pointer none))) :
 PmS σ' F p (upd M i none) Lf ow:=by
 have hset:(Value.bool true::(List.range 16).map λi=>ptr (M i)).set (1+i) (.pointer none)=.bool true::(List.range 16).map λj=>ptr (upd M i none j):=by
  rw[Nat.add_comm,zCL,Qu]
  congr 1
  apply zy;intro j _;simp only[upd];split<;>rfl
 rw[hset]at hb;have un:∀{j q},upd M i none j=some q->M j=some q:=λ{j q} hq=>by
  by_cases hji:j=i
  ·subst hji;rw[Y9]at hq;cases hq
  ·rwa [ZG _ _ hji]at hq
 refine⟨hb,λj q hj hq=>Wr ho (h.mid j q hj (un hq)) (h.fm j q hj (un hq)).2,λj hj hq=>?_,λk q hk hq=>Wr ho (h.leaf k q hk hq) (h.fl k q hk hq).2,h.leafN,h.fp,λj q hj hq=>h.fm j q hj (un hq),h.fl,λa b q ha hb h1 h2=>h.mm a b q ha hb (un h1) (un h2),h.ll,λa k q ha hk hq=>h.ml a k q ha hk (un hq)⟩;by_cases hji:j=i
 ·subst hji;exact hz
 ·rw[ZG _ _ hji]at hq;exact h.midN j hj hq
theorem Wli (h:PmH σ F p ow){x no:Nat}(hx:x<1024){R:Hp->Prop}(hR:∀σ',Ext F σ σ'->PmH σ' (Grow F σ) p (upd ow x no)->R σ'):YF.c (some ⟨p,0,none⟩) (x:Int) (no:Int) σ R:=by
 refine YF.o ?_;unfold YF.v;obtain⟨M,Lf,h⟩:=h;have t1:((x:Int).tdiv 8)=((x/8:Nat):Int):=by rw[YQ (by omega)];simp
 have t2:(((x/8:Nat):Int).tdiv 8)=((x/8/8:Nat):Int):=by rw[YQ (by omega)];simp
 have t3:(((x/8:Nat):Int).tmod 8)=((x/8%8:Nat):Int):=by rw[Qw (by omega)];simp
 have t4:((x:Int).tmod 8)=((x%8:Nat):Int):=by rw[Qw (by omega)];simp
 have hk:8*(x/8/8)+x/8%8=x/8:=by omega
 have hk2:8*(x/8)+x%8=x:=by omega
 refine nz (by decide) (arN t1 (by omega) (nz (by decide) (arN t2 (by omega) (nilP ?_))));refine ixA (by omega) ?_;rw[add_lit,add_lit,zG,zAX];refine Wf3 h (by omega) λv1 M1 q e1 hq h1=>?_;refine nz (by decide) (arN t1 (by omega) (nz (by decide) (nilP ?_)));rw[t3];refine ixA (by omega) ?_;rw[add_lit,zG,zAX];refine Wd2 h1 (by omega) (by omega) hq λv2 L2 r e2 hr h2=>?_;rw[hk]at hr;have e02:Ext F σ v2:=e1.growT e2;refine nz (by decide) (nilP ?_);rw[t4];refine ixA (by omega) ?_;rw[add_lit,zG,zAX];have hkl:x/8<128:=by omega
 refine(h2.leaf _ r hkl hr).s0 (by simp;omega) λv3 o3 b3=>?_;have h3:=WiA h2 hkl hr (by omega) o3 b3;rw[hk2]at h3;have grow2:∀b,Grow (Grow F σ) v1 b->Grow F σ b:=λb hb=>by
  rcases hb with h|h
  ·exact h
  ·exact .inr (ze e1.1 h)
 have e03:Ext F σ v3:=e02.newT o3.ext λb hb=>by subst hb;exact grow2 _ (h2.fl _ _ hkl hr).1
 have tail:∀v L4,Ext F σ v->PmS v (Grow (Grow F σ) v1) p M1 L4 (upd ow x no) →
  (NilP (some ⟨q,0,none⟩) λa41=>LdP (a41.add 0) v λt42=>LdP (a41.add 1) v λt421=>LdP (a41.add 2) v λt422=>LdP (a41.add 3) v λt423=>LdP (a41.add 4) v λt424=>LdP (a41.add 5) v λt425=>LdP (a41.add 6) v λt426=>LdP (a41.add 7) v λt427=>
   If (t42.isNone&&(t421.isNone&&(t422.isNone&&(t423.isNone&&(t424.isNone&&(t425.isNone&&(t426.isNone&&(t427.isNone&&true)))))))) (Nz 8<|Ar .i64 ((x:Int).tdiv 8) λt47=>Nz 8<|Ar .i64 (t47.tdiv 8) λt48=>NilP (some ⟨p,0,none⟩) λa49=>IxA (a49.add 1) 16 t48 1 λa51=>St1 a51 (.pointer none) v λv4=>R v4) (R v)):=by
  intro v L4 ev h4;have hm:=h4.mid _ q (by omega) hq;have g:∀j,j<8->((List.range 8).map λj=>ptr (L4 (8*(x/8/8)+j)))[0+j]?=some (.pointer ((L4 (8*(x/8/8)+j)).map λq=>⟨q,0,none⟩)):=λj hj=>by rw[zG,Ql _ hj];rfl
  refine nilP (hm.rP (g 0 (by omega)) (hm.rP (g 1 (by omega)) (hm.rP (g 2 (by omega)) (hm.rP (g 3 (by omega)) (hm.rP (g 4 (by omega)) (hm.rP (g 5 (by omega)) (hm.rP (g 6 (by omega)) (hm.rP (g 7 (by omega)) ?_))))))));have fin:∀w,Ext F σ w->PmH w (Grow (Grow F σ) v1) p (upd ow x no)->R w:=λw ew hw=>hR w ew (PmH.loc.mono hw λb _ hb=>grow2 b hb);refine iff_ (λhall=>?_) λ_=>fin v ev ⟨_,_,h4⟩;have hz:∀j,j<8->L4 (8*(x/8/8)+j)=none:=by
   simp only[Option.isNone_map,zDH,zF,Option.isNone_iff_eq_none]at hall;intro j hj;obtain⟨a0,a1,a2,a3,a4,a5,a6,a7⟩:=hall
   match j,hj with
   | 0,_=>exact a0
   | 1,_=>exact a1
   | 2,_=>exact a2
   | 3,_=>exact a3
   | 4,_=>exact a4
   | 5,_=>exact a5
   | 6,_=>exact a6
   | 7,_=>exact a7
  refine nz (by decide) (arN t1 (by omega) (nz (by decide) (arN t2 (by omega) (nilP ?_))));refine ixA (by omega) ?_;rw[add_lit,add_lit,zG,zAX];refine h4.hd.s0 (by simp;omega) λv4 o4 b4=>fin v4 (ev.newT o4.ext λb hb=>by subst hb;exact grow2 _ h4.fp) ⟨_,_,Wh7 h4 (by omega) hz o4 b4⟩
 refine Jn.intro (nilP ?_);have hlf:=h3.leaf _ r hkl hr;have g:∀j,j<8->((List.range 8).map λj=>Value.int .i64 ((upd ow x no (8*(x/8)+j):Nat):Int))[0+j]?=some (.int .i64 ((upd ow x no (8*(x/8)+j):Nat):Int)):=λj hj=>by rw[zG,Ql _ hj]
 refine hlf.rI (g 0 (by omega)) (hlf.rI (g 1 (by omega)) (hlf.rI (g 2 (by omega)) (hlf.rI (g 3 (by omega)) (hlf.rI (g 4 (by omega)) (hlf.rI (g 5 (by omega)) (hlf.rI (g 6 (by omega)) (hlf.rI (g 7 (by omega)) ?_)))))));refine iff_ (λhall=>?_) λ_=>tail v3 L2 e03 h3;have hz:∀j,j<8->upd ow x no (8*(8*(x/8/8)+x/8%8)+j)=0:=by
  rw[hk];simp only[WfM,zDH,zF,zS]at hall;intro j hj;obtain⟨a0,a1,a2,a3,a4,a5,a6,a7⟩:=hall
  match j,hj with
  | 0,_=>exact a0
  | 1,_=>exact a1
  | 2,_=>exact a2
  | 3,_=>exact a3
  | 4,_=>exact a4
  | 5,_=>exact a5
  | 6,_=>exact a6
  | 7,_=>exact a7
 refine nz (by decide) (arN t1 (by omega) (nz (by decide) (nilP ?_)));rw[t3];refine ixA (by omega) ?_;rw[add_lit,zG,zAX];have hm:=h3.mid _ q (by omega) hq;refine hm.s0 (by simp;omega) λv5 o5 b5=>?_;exact tail v5 _ (e03.newT o5.ext λb hb=>by subst hb;exact grow2 _ (h3.fm _ _ (by omega) hq).1) (Wgi h3 (by omega) (by omega) hq hz o5 b5)
def setO (ow:Nat->Nat)(a m no:Nat):Nat->Nat:=if YT 1024 a m then λp=>if a<=p/\p<a+m then no else ow p else ow
def pmE (a m:Int):Int:=if YT 1024 a m then 0 else 1
theorem WeU (h:PmH σ F p ow)(a m:Int)(ha : -1000000000000<=a)(ha2:a<=1000000000000)(no:Nat){R:Int->Hp->Prop}(h1:YT 1024 a m=false->R 1 σ)
 (hR:∀x y:Nat,a=x->m=y->1<=y->x+y<=1024->∀σ',Ext F σ σ'->PmH σ' (Grow F σ) p (setO ow x y no)->R 0 σ'):Yl.c (some ⟨p,0,none⟩) a m (no:Int) σ R:=by
 refine Yl.o ?_;unfold Yl.v;have bad:¬(0<=a/\1<=m/\m<=1024-a)->R 1 σ:=λhn=>h1 (by simp only[YT,←zDN];exact zT hn);refine Wca h (ifF rfl (JnB.intro (ifD (λc1=>JnB.intro (ifT rfl (JnB.intro (ifT rfl (ifT rfl (bad (by omega))))))) λc1=>?_)));refine JnB.intro (ifD (λc2=>JnB.intro (ifT rfl (ifT rfl (bad (by omega))))) λc2=>?_);refine JnB.intro (ifD (λc3=>ifT rfl (bad (by omega))) λc3=>ar (by omega) (by omega) (ifD (λc4=>bad (by omega)) λc4=>?_));obtain⟨x,rfl⟩:=zi (show 0<=a by omega);obtain⟨y,rfl⟩:=zi (show 0<=m by omega);have hok:YT 1024 (x:Int) (y:Int)=true:=by simp only[YT,zF,zN];omega
 refine Zw (a:=.i .i64) (λ(t:Int) v=>∃i:Nat,t=((x+i:Nat):Int)/\i<=y/\Ext F σ v/\PmH v (Grow F σ) p (λz=>if x<=z/\z<x+i then no else ow z)) (λt _=>x+y-t.toNat) ⟨0,rfl,by omega,Ext.refl _ _,?_⟩ ?_
 ·have:(λz=>if x<=z/\z<x+0 then no else ow z)=ow:=by
   funext z;rw[zA (by omega)]
  rw[this];exact PmH.loc.mono h λb _ hb=>.inl hb
 rintro t v ⟨i,rfl,hi,e,hP⟩;refine arN (m:=x+y) (by omega) (by omega) (ifD (λhlt=>?_) λhge=>?_)
 ·refine Wli hP (by omega) λv5 e5 h5=>arN (m:=x+(i+1)) (by omega) (by omega) ⟨⟨i+1,rfl,by omega,e.growT e5,?_⟩,by omega⟩;refine PmH.congr (PmH.loc.mono h5 λb _ hb=>?_) λz hz=>?_
  ·rcases hb with h|h
   ·exact h
   ·exact .inr (ze e.1 h)
  ·simp only[upd];by_cases hzi:z=x+i
   ·subst hzi;rw[zB rfl,zB (by omega)]
   ·rw[zA hzi];by_cases hin:x<=z/\z<x+i
    ·rw[zB hin,zB (by omega)]
    ·rw[zA hin,zA (by omega)]
 ·have:i=y:=by omega
  subst this;refine hR x i rfl rfl (by omega) (by omega) v e ?_;unfold setO;rw[hok];exact hP
theorem Wi6 (h:PmH σ F p ow)(a m:Nat)(ha:a<=1000000){no:Nat}(hno:1<=no)(hno2:no<=1000){R:Int->Hp->Prop}(hR:∀σ',Ext F σ σ'->PmH σ' (Grow F σ) p (setO ow a m no)->R (pmE a m) σ'):XP.c (some ⟨p,0,none⟩) a m (no:Int) σ R:=by
 refine XP.o ?_;unfold XP.v;refine Wca h (JnB.intro (ifT rfl (JnB.intro (ifDF (by omega) (ifDF (by omega) ?_)))));refine WeU h a m (by omega) (by omega) no (λhk=>?_) λx y hx hy h1 h2 σ' e hP=>?_
 ·have:=hR σ (Ext.refl _ _) (by unfold setO;rw[hk];exact PmH.loc.mono h λb _ hb=>.inl hb);unfold pmE at this;rw[hk]at this;exact this
 ·have hx':a=x:=by omega
  have hy':m=y:=by omega
  subst hx';subst hy';have hok:YT 1024 (a:Int) (m:Int)=true:=by simp only[YT,zF,zN];omega
  have:=hR σ' e hP;unfold pmE at this;rw[hok]at this;exact this
theorem WgM (h:PmH σ F p ow)(a m:Nat)(ha:a<=1000000){R:Int->Hp->Prop}(hR:∀σ',Ext F σ σ'->PmH σ' (Grow F σ) p (setO ow a m 0)->R (pmE a m) σ'):Xz.c (some ⟨p,0,none⟩) a m σ R:=by
 refine Xz.o ?_;unfold Xz.v;refine WeU h a m (by omega) (by omega) 0 (λhk=>?_) λx y hx hy h1 h2 σ' e hP=>?_
 ·have:=hR σ (Ext.refl _ _) (by unfold setO;rw[hk];exact PmH.loc.mono h λb _ hb=>.inl hb);unfold pmE at this;rw[hk]at this;exact this
 ·have hx':a=x:=by omega
  have hy':m=y:=by omega
  subst hx';subst hy';have hok:YT 1024 (a:Int) (m:Int)=true:=by simp only[YT,zF,zN];omega
  have:=hR σ' e hP;unfold pmE at this;rw[hok]at this;exact this
end Go.Ar
namespace Go.Proofs
open Go.Shelf
def Tryz.keysL_ren:Go.Shelf.Ren:=⟨fun|7=>279|10=>299|n=>n,fun|23=>219|26=>3|3=>4|28=>117|0=>0|27=>116|33=>152|4=>4|n=>n,fun|n=>n⟩
theorem Tryz.keysL:Go.Proofs.SlLaysZI.n7 Tryz.prog Tryz.keysL_ren:={
 mixed:=by kernel_rfl
 f7:=⟨Tryz.f279.name,by decide,Tryz.func279.trans (congrArg some (by kernel_rfl))⟩
 f10:=⟨Tryz.f299.name,by decide,Tryz.func299.trans (congrArg some (by kernel_rfl))⟩
 t0:=Tryz.underlying0
 a0:=Tryz.isAgg0
 z0:=Tryz.sizeOf0
 v0:=Tryz.zeroValue0
 t4:=Tryz.underlying4
 a4:=Tryz.isAgg4
 z4:=Tryz.sizeOf4
 v4:=Tryz.zeroValue4
 t23:=Tryz.underlying219
 a23:=Tryz.isAgg219
 z23:=Tryz.sizeOf219
 v23:=Tryz.zeroValue219
 t26:=Tryz.underlying3
 a26:=Tryz.isAgg3
 z26:=Tryz.sizeOf3
 v26:=Tryz.zeroValue3
 t27:=Tryz.underlying116
 a27:=Tryz.isAgg116
 z27:=Tryz.sizeOf116
 v27:=Tryz.zeroValue116
 t28:=Tryz.underlying117
 a28:=Tryz.isAgg117
 z28:=Tryz.sizeOf117
 v28:=Tryz.zeroValue117
 t33:=Tryz.underlying152
 a33:=Tryz.isAgg152
 z33:=Tryz.sizeOf152
 v33:=Tryz.zeroValue152}
def Tryz.sortedL_ren:Go.Shelf.Ren:=⟨fun|6=>66|8=>93|9=>94|11=>127|13=>129|12=>128|23=>167|24=>168|14=>158|15=>159|16=>160|17=>161|18=>162|19=>163|20=>164|21=>165|22=>166|25=>205|26=>206|27=>207|28=>208|29=>209|30=>210|31=>249|n=>n,fun|26=>3|28=>117|24=>69|0=>0|3=>3|37=>199|48=>255|50=>257|4=>4|40=>248|39=>247|45=>252|5=>5|9=>9|51=>299|55=>105|57=>335|58=>336|33=>152|n=>n,fun|n=>n⟩
theorem Tryz.sortedL:Go.Proofs.SlLaysZI.n6 Tryz.prog Tryz.sortedL_ren:={
 mixed:=by kernel_rfl
 f6:=⟨Tryz.f66.name,by decide,Tryz.func66.trans (congrArg some (by kernel_rfl))⟩
 f8:=⟨Tryz.f93.name,by decide,Tryz.func93.trans (congrArg some (by kernel_rfl))⟩
 f11:=⟨Tryz.f127.name,by decide,Tryz.func127.trans (congrArg some (by kernel_rfl))⟩
 t0:=Tryz.underlying0
 a0:=Tryz.isAgg0
 z0:=Tryz.sizeOf0
 v0:=Tryz.zeroValue0
 t24:=Tryz.underlying69
 a24:=Tryz.isAgg69
 z24:=Tryz.sizeOf69
 v24:=Tryz.zeroValue69
 t26:=Tryz.underlying3
 a26:=Tryz.isAgg3
 z26:=Tryz.sizeOf3
 v26:=Tryz.zeroValue3
 t28:=Tryz.underlying117
 a28:=Tryz.isAgg117
 z28:=Tryz.sizeOf117
 v28:=Tryz.zeroValue117
 i26:=by kernel_rfl}
def Tryz.collL_ren:Go.Shelf.Ren:=⟨fun|8=>93|11=>127|n=>n,fun|26=>3|28=>117|24=>69|0=>0|33=>152|4=>4|n=>n,fun|n=>n⟩
theorem Tryz.collL:Go.Proofs.SlLaysZI.n8 Tryz.prog Tryz.collL_ren:={
 mixed:=by kernel_rfl
 f8:=⟨Tryz.f93.name,by decide,Tryz.func93.trans (congrArg some (by kernel_rfl))⟩
 f11:=⟨Tryz.f127.name,by decide,Tryz.func127.trans (congrArg some (by kernel_rfl))⟩
 t0:=Tryz.underlying0
 a0:=Tryz.isAgg0
 z0:=Tryz.sizeOf0
 v0:=Tryz.zeroValue0
 t24:=Tryz.underlying69
 a24:=Tryz.isAgg69
 z24:=Tryz.sizeOf69
 v24:=Tryz.zeroValue69
 t26:=Tryz.underlying3
 a26:=Tryz.isAgg3
 z26:=Tryz.sizeOf3
 v26:=Tryz.zeroValue3
 t28:=Tryz.underlying117
 a28:=Tryz.isAgg117
 z28:=Tryz.sizeOf117
 v28:=Tryz.zeroValue117
 i26:=by kernel_rfl}
def Tryz.sortL_ren:Go.Shelf.Ren:=⟨fun|5=>94|8=>129|7=>128|19=>167|20=>168|10=>158|11=>159|12=>160|13=>161|14=>162|15=>163|16=>164|17=>165|18=>166|30=>205|31=>206|32=>207|33=>208|34=>209|35=>210|40=>249|n=>n,fun|23=>69|25=>3|3=>3|32=>199|22=>69|0=>0|44=>255|46=>257|4=>4|36=>248|35=>247|41=>252|5=>5|9=>9|53=>299|57=>105|63=>335|64=>336|n=>n,fun|n=>n⟩
theorem Tryz.sortL:Go.Proofs.SlLaysM.n5 Tryz.prog Tryz.sortL_ren:={
 mixed:=by kernel_rfl
 f5:=⟨Tryz.f94.name,by decide,Tryz.func94.trans (congrArg some (by kernel_rfl))⟩
 f7:=⟨Tryz.f128.name,by decide,Tryz.func128.trans (congrArg some (by kernel_rfl))⟩
 f8:=Tryz.func129.trans (congrArg some (by kernel_rfl))
 f10:=⟨Tryz.f158.name,by decide,Tryz.func158.trans (congrArg some (by kernel_rfl))⟩
 f11:=⟨Tryz.f159.name,by decide,Tryz.func159.trans (congrArg some (by kernel_rfl))⟩
 f12:=⟨Tryz.f160.name,by decide,Tryz.func160.trans (congrArg some (by kernel_rfl))⟩
 f13:=⟨Tryz.f161.name,by decide,Tryz.func161.trans (congrArg some (by kernel_rfl))⟩
 f14:=⟨Tryz.f162.name,by decide,Tryz.func162.trans (congrArg some (by kernel_rfl))⟩
 f15:=⟨Tryz.f163.name,by decide,Tryz.func163.trans (congrArg some (by kernel_rfl))⟩
 f16:=⟨Tryz.f164.name,by decide,Tryz.func164.trans (congrArg some (by kernel_rfl))⟩
 f17:=⟨Tryz.f165.name,by decide,Tryz.func165.trans (congrArg some (by kernel_rfl))⟩
 f18:=⟨Tryz.f166.name,by decide,Tryz.func166.trans (congrArg some (by kernel_rfl))⟩
 f19:=Tryz.func167.trans (congrArg some (by kernel_rfl))
 f20:=Tryz.func168.trans (congrArg some (by kernel_rfl))
 f30:=⟨Tryz.f205.name,by decide,Tryz.func205.trans (congrArg some (by kernel_rfl))⟩
 f31:=Tryz.func206.trans (congrArg some (by kernel_rfl))
 f32:=Tryz.func207.trans (congrArg some (by kernel_rfl))
 f33:=⟨Tryz.f208.name,by decide,Tryz.func208.trans (congrArg some (by kernel_rfl))⟩
 f34:=⟨Tryz.f209.name,by decide,Tryz.func209.trans (congrArg some (by kernel_rfl))⟩
 f35:=⟨Tryz.f210.name,by decide,Tryz.func210.trans (congrArg some (by kernel_rfl))⟩
 f40:=⟨Tryz.f249.name,by decide,Tryz.func249.trans (congrArg some (by kernel_rfl))⟩
 t0:=Tryz.underlying0
 a0:=Tryz.isAgg0
 z0:=Tryz.sizeOf0
 v0:=Tryz.zeroValue0
 t3:=Tryz.underlying3
 a3:=Tryz.isAgg3
 z3:=Tryz.sizeOf3
 v3:=Tryz.zeroValue3
 t4:=Tryz.underlying4
 a4:=Tryz.isAgg4
 z4:=Tryz.sizeOf4
 v4:=Tryz.zeroValue4
 t5:=Tryz.underlying5
 a5:=Tryz.isAgg5
 z5:=Tryz.sizeOf5
 v5:=Tryz.zeroValue5
 t9:=Tryz.underlying9
 a9:=Tryz.isAgg9
 z9:=Tryz.sizeOf9
 v9:=Tryz.zeroValue9
 t22:=Tryz.underlying69
 a22:=Tryz.isAgg69
 z22:=Tryz.sizeOf69
 v22:=Tryz.zeroValue69
 t23:=Tryz.underlying69
 a23:=Tryz.isAgg69
 z23:=Tryz.sizeOf69
 v23:=Tryz.zeroValue69
 t25:=Tryz.underlying3
 a25:=Tryz.isAgg3
 z25:=Tryz.sizeOf3
 v25:=Tryz.zeroValue3
 t32:=Tryz.underlying199
 a32:=Tryz.isAgg199
 z32:=Tryz.sizeOf199
 v32:=Tryz.zeroValue199
 t35:=Tryz.underlying247
 a35:=Tryz.isAgg247
 z35:=Tryz.sizeOf247
 v35:=Tryz.zeroValue247
 t36:=Tryz.underlying248
 a36:=Tryz.isAgg248
 z36:=Tryz.sizeOf248
 v36:=Tryz.zeroValue248
 t41:=Tryz.underlying252
 a41:=Tryz.isAgg252
 z41:=Tryz.sizeOf252
 v41:=Tryz.zeroValue252
 t44:=Tryz.underlying255
 a44:=Tryz.isAgg255
 z44:=Tryz.sizeOf255
 v44:=Tryz.zeroValue255
 t46:=Tryz.underlying257
 a46:=Tryz.isAgg257
 z46:=Tryz.sizeOf257
 v46:=Tryz.zeroValue257
 t53:=Tryz.underlying299
 a53:=Tryz.isAgg299
 z53:=Tryz.sizeOf299
 v53:=Tryz.zeroValue299
 t57:=Tryz.underlying105
 a57:=Tryz.isAgg105
 z57:=Tryz.sizeOf105
 v57:=Tryz.zeroValue105
 t63:=Tryz.underlying335
 a63:=Tryz.isAgg335
 z63:=Tryz.sizeOf335
 v63:=Tryz.zeroValue335
 t64:=Tryz.underlying336
 a64:=Tryz.isAgg336
 z64:=Tryz.sizeOf336
 v64:=Tryz.zeroValue336}
end Go.Proofs
namespace Go.Bu
open Go Go.Vc Go.Proofs Go.RowKit Go.Maps Go.Sort Go.Shelf
variable {σ:Hp}
def SlF (B:Nat)(h:Hp)(s:Sl)(xs:List Value):Prop:=
 s.len=xs.length/\(xs=[]/\s.a=none\/∃b cs,B<=b/\s.a=some ⟨b,0,none⟩/\Blk h b cs/\∀j,j<xs.length->cs[j]?=xs[j]?)
theorem SlF.keep {B:Nat}{h h':Hp}{s:Sl}{xs:List Value}{F:Nat->Prop}(hs:SlF B h s xs)(e:Ext F h h')(hF:∀b,F b->b<B):SlF B h' s xs:=by
 refine⟨hs.1,hs.2.imp id ?_⟩;rintro⟨b,cs,hb,ha,hk,hc⟩;exact⟨b,cs,hb,ha,e.blk hk (λhf=>by have:=hF b hf;omega),hc⟩
theorem SlF.keep0 {B:Nat}{h h':Hp}{s:Sl}{xs:List Value}(hs:SlF B h s xs)(e:Ext0 h h'):SlF B h' s xs:=hs.keep e λ_ h=>h.elim
theorem SlF.mono {B B':Nat}{h:Hp}{s:Sl}{xs:List Value}(hs:SlF B h s xs)(hB:B'<=B):SlF B' h s xs:=by
 refine⟨hs.1,hs.2.imp id ?_⟩;rintro⟨b,cs,hb,ha,hk,hc⟩;exact⟨b,cs,by omega,ha,hk,hc⟩
theorem SlF.ixI {B:Nat}{h:Hp}{s:Sl}{xs:List Int}(hs:SlF B h s (xs.map (Value.int .i64))){i:Nat}{x:Int}(hx:xs[i]?=some x){K:Int->Prop}(hK:K x) :
 Ix s.a s.len (i:Int) 1 λa=>LdI .i64 a h K:=by
 have hi:i<xs.length:=(gSi.1 hx).1;rcases hs.2 with⟨h0,_⟩|⟨b,cs,_,ha,hb,hc⟩
 ·simp at h0;subst h0;simp at hi
 ·rw[ha];refine ix (by omega) (by rw[hs.1];simp;omega) ?_;rw[add_lit];refine ldI ?_ hK;rw[hb.cell];have:=hc i (by simpa using hi);simpa[hx]using this
theorem Uy {w w':World}(h:Below w.heap.size w w'):Ext0 w.heap w'.heap:=⟨h.size,λb hb _=>h.block b hb⟩
theorem Wa4 {n:Nat}{w w':World}(h:Below n w w'):Zc w w':=⟨h.os,h.tape,h.output,h.size⟩
def G8:Nat:=Tryz.keysL_ren.f 10
def WiE:Nat:=Tryz.keysL_ren.t 23
theorem Wkv (m:Option Nat){R:Fv->Hp->Prop}(hR:R ⟨G8,#[],#[.pointer (some ⟨σ.size,0,none⟩)]⟩ (σ.push (.cells #[.map m] WiE (0,0)))) :
 ZF.c m σ R:=by
 rintro w rfl;refine(callsIn_wide.1 (AnyZI.keys_in Tryz.keysL Fence.wide 5 trivial rfl m w)).mono ?_;rintro e w' ⟨rfl,rfl⟩;exact⟨⟨rfl,rfl,rfl,zCF (by show _<(w.heap.push _).size;simp)⟩,[.func (.func G8) #[] #[.pointer (some ⟨w.heap.size,0,none⟩)]],rfl,⟨G8,#[],#[.pointer (some ⟨w.heap.size,0,none⟩)]⟩,rfl,hR⟩
def I64 (x:Int):Prop:=-9223372036854775808<=x/\x<=9223372036854775807
theorem VN {P:Program}{kt:Nat}(hk:P.underlying kt=some (.int .i64)){w:World}{m:Nat}{c:CK}{B:List (Int×c.T)}(h:MapL w.heap m .i64 c B)(hb:∀x∈B,I64 x.1)(hs:B.length<=1000000) :
 ∃D:DataW Unit,w.ownsMap P kt (λ_=>some (.nil,[])) m B.length D/\(intKeys D).Perm (B.map (·.1))/\Maps.size D=B.length:=by
 obtain⟨es,clk,hr,he,hn,hp,hlt⟩:=h;have hlen:es.size=B.length:=by simpa using congrArg List.length he
 have hkey:∀e∈es.toList,∃x:Int,e.key=.int .i64 x/\I64 x:=by
  intro e hme;have:(e.key,e.val)∈es.toList.map (λe=>(e.key,e.val)):=zEQ hme;rw[he]at this;obtain⟨y,hy,e2⟩:=zC.1 this;simp only[Prod.mk.injEq]at e2;exact⟨y.1,e2.1.symm,hb y hy⟩
 have wf:∀x:Int,I64 x->(Lit.int .i64 x).wf=true:=by
  rintro x ⟨h1,h2⟩;simp[Lit.wf,IntKind.min,IntKind.max,IntKind.bits,IntKind.signed];omega
 have hrd:∀e∈es.toList,∃x:Int,e.key=.int .i64 x/\Go.WideElems.rd P kt (λ_=>some ((.nil:DataW Unit),[])) e=some (.int .i64 x,.nil):=by
  intro e hme;obtain⟨x,hx,hi⟩:=hkey e hme;refine⟨x,hx,?_⟩;simp[Go.WideElems.rd,keyOf,hk,hx,mapKey,wf x hi]
 refine⟨.map ((es.toList.map (Go.WideElems.rg P kt (λ_=>some (.nil,[])))).foldr DataW.insert []),⟨es,clk,hr,⟨?_,⟨λx hx=>hlt x hx,?_,?_⟩,λx hx=>?_⟩,by omega,rfl⟩,?_,?_⟩
 ·have:1000000<=maxLen:=by unfold maxLen;omega
  omega
 ·exact hp.imp (λh=>zEA h)
 ·have e3:es.toList.map (·.key)=(B.map (·.1)).map (Value.int .i64):=by
   have:=congrArg (List.map Prod.fst) he;simpa[zAJ,Function.comp_def]using this
  rw[e3];exact List.Pairwise.map _ (λa b (hne:a≠b) hab=>hne (by simpa using hab)) hn
 ·obtain⟨x1,_,h1⟩:=hrd x hx;exact⟨_,h1⟩
 ·simp only[intKeys];refine((Go.WideShapes.sorted_perm _).map _).trans ?_;rw[zAJ];have:es.toList.map ((λp=>Go.intOf p.1)∘Go.WideElems.rg P kt (λ_=>some ((.nil:DataW Unit),[])))=B.map (·.1):=by
   have e3:es.toList.map (·.key)=(B.map (·.1)).map (Value.int .i64):=by
    have:=congrArg (List.map Prod.fst) he;simpa[zAJ,Function.comp_def]using this
   have e4:es.toList.map ((λp=>Go.intOf p.1)∘Go.WideElems.rg P kt (λ_=>some ((.nil:DataW Unit),[])))=(es.toList.map (·.key)).map (λv=>match v with | .int _ x=>x|_=>0):=by
    rw[zAJ];apply zy;intro e hme;obtain⟨x,hx,h1⟩:=hrd e hme;simp[Function.comp,Go.WideElems.rg,h1,hx,Go.intOf]
   rw[e4,e3,zAJ]
   conv=>rhs;rw[←zDX (B.map (·.1))]
   rfl
  rw[this]
 ·simp only[Maps.size];rw[(Go.WideShapes.sorted_perm _).length_eq];simp[hlen]
theorem Wa0 {w:World}{B e n:Nat}{v:Value}{xs:List Value}(h:w.ownsRow B e 1 v n xs):∃s:Sl,v=.slice s.a s.len s.cap/\SlF B w.heap s xs:=by
 obtain⟨hl,h⟩:=h;rcases h with⟨rfl,rfl⟩|⟨g,cap,cur,rfl,hb,hg,_,_,hcs,ht⟩
 ·exact⟨⟨none,0,0⟩,rfl,by simp at hl;simp[hl],.inl ⟨by simpa using hl,rfl⟩⟩
 ·refine⟨⟨some ⟨g,0,none⟩,n,cap⟩,rfl,by simp at hl;simp[hl],.inr ⟨g,cur.toList,hb,rfl,⟨e,by simpa using hg⟩,λj hj=>?_⟩⟩;rw[←ht,zg,zB (by omega)]
theorem WhO {w:World}{c m:Nat}{B:List (Int×Bool)}(hc:cell w.heap ⟨c,0,none⟩=some (.map (some m)))(hm:MapL w.heap m .i64 .b B)(hb:∀x∈B,I64 x.1)(hs:B.length<=1000000)(n:Nat)(hn:1<=n) :
 SeqGives Fence.wide n Tryz.prog G8 #[.pointer (some ⟨c,0,none⟩)] encZ (λss=>ss.Perm (B.map (·.1))) B.length w:=by
 obtain⟨D,hD,hp,hsz⟩:=VN (P:=Tryz.prog) Tryz.keysL.t26 hm hb hs;have hcl:c<w.heap.size:=by
  unfold cell at hc;split at hc
  ·rename_i h;exact(zAK.1 h).1
  ·cases hc
 have:=AnyZI.keys_gives (ρ:=Tryz.keysL_ren) {Tryz.keysL with} Fence.wide n trivial rfl hn c m B.length D w hcl hc hD;intro l J W hW hJ hY h0;rw[hsz]at this;refine(this l J W hW hJ hY h0).mono ?_;rintro e W' ⟨he,ss,h1,h2⟩;exact⟨he,ss,h1.trans hp,h2⟩
theorem Wlq (m:Nat):AnyZI.SortsIn Tryz.prog Tryz.sortedL_ren Fence.wide m:=
 ⟨λblk off cap ss W hH hblk hsz=>callsIn_wide.2 (AnyM.slices_Sort_int Tryz.sortL blk off cap ss W hH hblk hsz),
  λp cap W=>callsIn_wide.2 (AnyM.slices_Sort_int_none Tryz.sortL p cap W)⟩
theorem Weo {c m:Nat}{B:List (Int×Bool)}(hc:cell σ ⟨c,0,none⟩=some (.map (some m)))(hm:MapL σ m .i64 .b B)(hb:∀x∈B,I64 x.1)(hs:B.length<=1000000){R:Sl->Hp->Prop}
 (hR:∀(s:Sl) (σ':Hp) (ss:List Int),Ext0 σ σ'->ss.Perm (B.map (·.1))->SlF σ.size σ' s (ss.map (Value.int .i64))->R s σ') :
 Kd.c ⟨G8,#[],#[.pointer (some ⟨c,0,none⟩)]⟩ σ R:=by
 rintro w rfl;have hseq:=WhO hc hm hb hs 3 (by omega);have hml:B.length<=maxLen:=by unfold maxLen;omega
 have cS:=AnyZI.collect_in Tryz.collL Fence.wide 5 trivial trivial rfl (by omega) G8 #[.pointer (some ⟨c,0,none⟩)] trivial (Tryz.keysL.f10.enters rfl) _ _ hml (by omega) _ hseq;refine(callsIn_wide.1 cS).mono ?_;rintro e w' ⟨v,ss,rfl,hp,hrow,hnil,hbe⟩;obtain⟨s,rfl,hsl⟩:=Wa0 hrow;exact⟨Wa4 hbe,[.slice s.a s.len s.cap],rfl,s,rfl,hR s _ ss (Uy hbe) hp hsl⟩
end Go.Bu
namespace Go.Bu
open Go Go.Vc Go.Proofs
variable {σ:Hp}{p n sb:Nat}{S:Nat->Bool}{ms:List Nat}
theorem WkE {B:Nat}{s:Sl}{xs:List Int}(hs:SlF B σ s (xs.map (Value.int .i64)))(hl:xs.length<1000000000){m:Int}(hm:m∈xs)(hle:∀y∈xs,m<=y){R:Int->Hp->Prop}(hR:R m σ):XJ.c s σ R:=by
 refine XJ.o ?_;unfold XJ.v;have hlen:s.len=xs.length:=by simpa using hs.1
 have hpos:0<xs.length:=List.length_pos_of_mem hm;refine Jn.intro (ifDF (by omega) ?_);have h0:xs[0]?=some xs[0]:=by simp[hpos]
 refine hs.ixI (i:=0) h0 ?_;refine Ks (a:=.i .i64) (bb:=.i .i64) (λ(c t:Int) h'=>∃k:Nat,t=(k:Int)/\k<=xs.length/\h'=σ/\c∈xs/\∀(j:Nat) (y:Int),j<k->xs[j]?=some y->c<=y) (λ_ t _=>xs.length-t.toNat)
  ⟨1,rfl,by omega,rfl,zj _,λj y hj hy=>?_⟩ ?_
 ·have:j=0:=by omega
  subst this;rw[h0]at hy;cases hy;omega
 rintro c t h' ⟨k,rfl,hk,rfl,hc,hall⟩;refine ifD (λhlt=>?_) (λhge=>?_)
 ·have hk':k<xs.length:=by omega
  have hx:xs[k]?=some xs[k]:=by simp[hk']
  refine hs.ixI hx (arN (m:=k+1) (by omega) (by omega) ⟨⟨k+1,rfl,by omega,rfl,?_,λj y hj hy=>?_⟩,by omega⟩)
  ·split
   ·exact zj _
   ·exact hc
  ·by_cases e:j=k
   ·subst e;rw[hx]at hy;cases hy;split<;>omega
   ·have:=hall j y (by omega) hy;split<;>omega
 ·have:k=xs.length:=by omega
  subst this;obtain⟨j,hj,e⟩:=zDF hm;have h1:=hall j m hj (by simp[hj,e]);have h2:=hle c hc;have:c=m:=Int.le_antisymm h1 h2;rw[this];exact hR
def Qp (n:Nat)(S:Nat->Bool)(k:Nat):List Nat:=((List.range n).filter (can S k)).map (· * 2^k)
theorem Wkd (hb:Bounded S n){k q:Nat}(hc:can S k q=true):q<n:=by
 have:=Zd hb (Y8.1 hc).1;have h1:=zv k;have h2:q<=q*2^k:=zFN _ h1;omega
theorem Z3 (hb:Bounded S n){k x:Nat}:x∈Qp n S k↔∃q,x=q*2^k/\can S k q=true:=by
 simp only[Qp,zC,zH,zW];constructor
 ·rintro⟨q,⟨_,hc⟩,rfl⟩;exact⟨q,rfl,hc⟩
 ·rintro⟨q,rfl,hc⟩;exact⟨q,⟨Wkd hb hc,hc⟩,rfl⟩
theorem V0 (n:Nat)(S:Nat->Bool)(k:Nat):(Qp n S k).Pairwise (· < ·):=by
 unfold Qp;refine List.Pairwise.map _ (λa b h=>Nat.mul_lt_mul_of_pos_right h (zv k)) ?_;exact List.Pairwise.sublist zCS List.pairwise_lt_range
theorem Uf (n:Nat)(S:Nat->Bool)(k:Nat):(Qp n S k).length=many n S k:=by
 simp[Qp,many,zEG]
theorem Wfa {k:Nat}{B:List (Int×Bool)}(hK:Keys S k B)(hn:(B.map (·.1)).Nodup)(hb:Bounded S n):(B.map (·.1)).Perm ((Qp n S k).map λ(x:Nat)=>(x:Int)):=by
 rw[zEF hn]
 ·intro x;simp only[zC];constructor
  ·rintro⟨⟨x1,x2⟩,hm,rfl⟩;obtain⟨_,q,hx,hc⟩:=hK.1 x1 x2 hm;exact⟨_,(Z3 hb).2 ⟨q,rfl,hc⟩,hx.symm⟩
  ·rintro⟨y,hy,rfl⟩;obtain⟨q,rfl,hc⟩:=(Z3 hb).1 hy;exact⟨_,hK.2 q hc,rfl⟩
 ·refine List.Pairwise.map _ (λa b (hlt:a<b)=>?_) (V0 n S k);intro e;have:a=b:=by exact_mod_cast e
  omega
theorem WhK {k:Nat}{B:List (Int×Bool)}(hK:Keys S k B)(hb:Bounded S n)(hn:n<=1024):∀x∈B,I64 x.1:=by
 rintro⟨x,v⟩ hx;obtain⟨_,q,rfl,hc⟩:=hK.1 x v hx;have:=Zd hb (Y8.1 hc).1;have:=zv k;constructor<;>simp only<;>omega
theorem WfI (h:BH σ p n S sb ms){k:Nat}(hk:ms.length<=k):Qp n S k=[]:=by
 rw[List.eq_nil_iff_forall_not_mem];intro x hx;obtain⟨q,_,hc⟩:=(Z3 h.bnd).1 hx;have:=h.fits (Zd h.bnd (Y8.1 hc).1);omega
theorem Wga {h:Hp}{v:Value}{e:Nat}:cell (h.push (.cells #[v] e (0,0))) ⟨h.size,0,none⟩=some v:=by simp[cell]
theorem VU (h:Hp)(o:Obj):Ext0 h (h.push o):=Ext.push _ _ _
def isPow (a:Int):Bool:=(List.range 11).any λk=>a==((2^k:Nat):Int)
theorem Wfp:(List.range 1025).all (λa=>a==0||((a &&& (a-1))==0)==((List.range 11).any λk=>a==2^k))=true:=by decide +kernel
theorem Wcx {a:Nat}(h1:1<=a)(h2:a<=1024):((a &&& (a-1))==0)=((List.range 11).any λk=>a==2^k):=by
 have:=zw.1 Wfp a (zW.2 (by omega));simp only[zBH,zS]at this;rcases this with h|h
 ·omega
 ·exact h
theorem H7 (a:Nat):isPow (a:Int)=((List.range 11).any λk=>a==2^k):=by
 unfold isPow
 congr 1
 funext k
 rw[zBF];simp only[zS];exact⟨λh=>by exact_mod_cast h,λh=>by exact_mod_cast h⟩
def takeArg (pages align:Int):Bool:=decide (1<=pages)&&(decide (pages<=1024)&&(decide (1<=align)&&(decide (align<=1024)&&isPow align)))
def Zg (n:Nat)(S:Nat->Bool)(pages align:Nat):Nat->Option Nat
 | 0=>none
 | k+1=>match Zg n S pages align k with
  | some x=>some x
  | none=>if pages<=2^k/\align<=2^k then(Qp n S k).head? else none
def YR (n:Nat)(S:Nat->Bool)(pages align:Nat):Option Nat:=Zg n S pages align 11
def takeE (n:Nat)(S:Nat->Bool)(pages align:Int):Int:=if takeArg pages align then(match YR n S pages.toNat align.toNat with|some _=>0|none=>6)else 1
def takeV (n:Nat)(S:Nat->Bool)(pages align:Int):Nat:=if takeArg pages align then(match YR n S pages.toNat align.toNat with|some x=>x|none=>0)else 0
def takeS (n:Nat)(S:Nat->Bool)(pages align:Int):Nat->Bool:=if takeArg pages align then(match YR n S pages.toNat align.toNat with|some x=>take S x (x+pages.toNat)|none=>S)else S
theorem WaM {n:Nat}{S:Nat->Bool}{m a k x:Nat}(h:Zg n S m a k=some x):∀j,k<=j->Zg n S m a j=some x:=by
 intro j hj
 induction j with
 | zero=>
  have:k=0:=by omega
  subst this;exact h
 | succ j ih=>
  by_cases e:k=j+1
  ·subst e;exact h
  ·simp only[Zg,ih (by omega)]
theorem WaO (h:BH σ p n S sb ms){m a:Nat}(hn:Zg n S m a ms.length=none):∀j,ms.length<=j->Zg n S m a j=none:=by
 intro j hj
 induction j with
 | zero=>
  have:ms.length=0:=by omega
  rw[this]at hn;exact hn
 | succ j ih=>
  by_cases e:ms.length=j+1
  ·rw[←e];exact hn
  ·simp only[Zg,ih (by omega),WfI h (show ms.length<=j by omega)];simp
theorem WcX {k:Nat}(hpos:0<many n S k):∃x rest,Qp n S k=x::rest:=by
 rw[←Uf]at hpos
 match h:Qp n S k with
 | []=>rw[h]at hpos;simp at hpos
 | x::r=>exact⟨x,r,rfl⟩
theorem Take_ok (h:BH σ p n S sb ms)(pages align:Int){R:Int->Int->Hp->Prop}
 (hR:∀σ',Ext (· ∈ ms) σ σ'->BH σ' p n (takeS n S pages align) sb ms->R ((takeV n S pages align:Nat):Int) (takeE n S pages align) σ'):XA.c (some ⟨p,0,none⟩) pages align σ R:=by
 refine XA.o ?_;unfold XA.v;have hn2:=h.n2;have hl:=h.len;have bad:takeArg pages align=false->R 0 1 σ:=λe=>by
  have:=hR σ (Ext.refl _ _);simp only[takeS,takeV,takeE,e,zZ,zq]at this;exact this h
 have badP:¬(1<=pages/\pages<=1024/\1<=align/\align<=1024)->R 0 1 σ:=λhn=>bad (by
  simp only[takeArg,←Bool.and_assoc,←zDN];rw[zT];rfl;omega)
 refine WaL h (ifF rfl (JnB.intro ?_));refine ifD (λh1=>JnB.intro (ifT rfl (JnB.intro (ifT rfl (JnB.intro (ifT rfl (ifT rfl (badP (by omega))))))))) λh1=>?_;refine JnB.intro (ifD (λh2=>JnB.intro (ifT rfl (JnB.intro (ifT rfl (ifT rfl (badP (by omega))))))) λh2=>?_);refine JnB.intro (ifD (λh3=>JnB.intro (ifT rfl (ifT rfl (badP (by omega))))) λh3=>?_);refine JnB.intro (ifD (λh4=>ifT rfl (badP (by omega))) λh4=>?_);obtain⟨a,rfl⟩:=zi (show 0<=align by omega);obtain⟨m,rfl⟩:=zi (show 0<=pages by omega);refine arN (m:=a-1) (by omega) (by omega) ?_;rw[bits_and_i64 (by omega) (by omega)];have hand:((((a &&& (a-1):Nat):Int)) != 0) = !isPow (a:Int):=by
  rw[H7,←Wcx (by omega) (by omega)];simp only[bne,Bool.not_inj_iff];rw[zBF];simp only[zS];omega
 rw[hand];cases hp:isPow (a:Int)
 ·refine ifT rfl (bad ?_);simp[takeArg,hp]
 refine ifF rfl ?_;have hok:takeArg (m:Int) (a:Int)=true:=by
  simp only[takeArg,hp,zDH,zF,zN];omega
 refine nilP (h.rB λcap=>?_);refine Zw (a:=.i .i64) (λt h'=>∃k:Nat,t=(k:Int)/\k<=ms.length/\h'=σ/\Zg n S m a k=none) (λt _=>ms.length-t.toNat) ⟨0,rfl,by omega,rfl,rfl⟩ ?_;rintro t h' ⟨k,rfl,hk,rfl,hno⟩;refine ifD (λhlt=>?_) (λhge=>?_)
 ·simp only at hlt;obtain⟨mm,hm⟩:=h.get (k:=k) (by omega);refine h.rM hm (shl1 (by omega) (JnB.intro ?_));have next:Zg n S m a (k+1)=none->Ar .i64 ((k:Int)+1) λt67=>(∃k:Nat,t67=(k:Int)/\k<=ms.length/\h'=h'/\Zg n S m a k=none)/\ms.length-t67.toNat<ms.length-(k:Int).toNat:=
   λhno'=>arN (m:=k+1) (by omega) (by omega) ⟨⟨k+1,rfl,by omega,rfl,hno'⟩,by omega⟩
  refine ifD (λhbig=>?_) (λhsm=>ifF rfl (next ?_))
  ·have hbig':m<=2^k/\a<=2^k:=by
    have:((if(a:Int)>(m:Int)then(a:Int)else(m:Int))<=((2^k:Nat):Int)):=hbig
    split at this<;>omega
   refine h.mlen hm ?_;refine ifD (λhpos=>?_) (λhz=>next ?_)
   ·have hpos':0<many n S k:=by omega
    obtain⟨x,rest,hx⟩:=WcX hpos';obtain⟨q,rfl,hc⟩:=(Z3 h.bnd (k:=k) (x:=x)).1 (by rw[hx];simp);have hat:YR n S m a=some (q*2^k):=by
     refine WaM (k:=k+1) ?_ 11 (by omega);simp only[Zg,hno,zB hbig',hx,List.head?_cons]
    have hfb:=Zd h.bnd (Y8.1 hc).1;obtain⟨B,hB,hkk⟩:=h.maps k mm hm;have hcount:=GR hkk hB.nodup h.bnd;have hle:B.length<=1024:=by
     rw[hcount];have:=zEH (p:=can S k) (l:=List.range n);simp only[many,zCY]at *;omega
    refine Wkv _ ?_;have e1:=VU h' (.cells #[.map (some mm)] WiE (0,0));refine Weo Wga (e1.mapL hB id) (WhK hkk h.bnd h.n2) (by omega) λs σ' ss e2 hp hsl=>?_;have hss:=hp.trans (Wfa hkk hB.nodup h.bnd);have hsl':=hss.length_eq;simp only[zh]at hsl';rw[Uf,←hcount]at hsl';refine WkE hsl (by omega) (m:=((q*2^k:Nat):Int)) (hss.mem_iff.2 (by rw[hx];simp)) (λy hy=>?_) ?_
    ·have hy':=hss.mem_iff.1 hy;have hsorted:=V0 n S k;rw[hx]at hy' hsorted;simp only[zI,zX,zC]at hy';rcases hy' with rfl|⟨z,hz,rfl⟩
     ·omega
     ·have:=(zBT.1 hsorted).1 z hz;omega
    ·have hB2:=(h.keep0 e1).keep0 e2;refine Wk0 hB2 (by omega) (λy hy1 hy2=>QV hc (Zv.2 (by omega))) λh3 e3 hB3=>?_;have:=hR h3 ((e1.to.trans e2.to).trans e3);simp only[takeS,takeV,takeE,hok,iTn,hat,zP]at this;exact this hB3
   ·simp only[Zg,hno,zB hbig'];have:Qp n S k=[]:=zFZ (by rw[Uf];omega);rw[this];rfl
  ·have hsm':¬(m<=2^k/\a<=2^k):=by
    have:¬((if(a:Int)>(m:Int)then(a:Int)else(m:Int))<=((2^k:Nat):Int)):=hsm
    split at this<;>omega
   simp only[Zg,hno,zA hsm']
 ·simp only at hge;have:k=ms.length:=by omega
  subst this;have hat:YR n S m a=none:=WaO h hno 11 (by omega);have:=hR h' (Ext.refl _ _);simp only[takeS,takeV,takeE,hok,iTn,hat,zP]at this;exact this h
end Go.Bu
namespace Go.Ar
open Go.Bu
structure AR where
 n:Nat
 room:Nat
 tb:List Cls
 S:Nat->Bool
 st:List Nat
 ow:Nat->Nat
 cen:List (List SpA)
 tra:List TrA
 runs:List (Nat×Nat)
def AR.ck (A:AR)(k:Int):Bool:=decide (0<=k)&&decide (k<(A.tb.length:Int))
def KO (A:AR)(r:Nat×Nat):AR:={A with ow:=setO A.ow r.1 r.2 0,st:=Vj A.st r.1 r.2 2 [1],S:=ZU A.n A.S r.1 r.2}
def KX (A:AR)(rs:List (Nat×Nat)):AR:=rs.foldl KO A
def growStart (sp:Sp)(size:Nat):Option Nat:=((List.range (sp.st.length/size)).map (· * size)).find? λs=>s != 0&&mapE sp s size==0
def VA (st:List Nat)(a m:Nat):List Nat:=((List.range m).map (a + ·)).foldl (λl (h:Nat)=>addT l h) st
def VE (A:AR)(sp:Sp)(size:Nat):Option (AR×Sp):=match growStart sp size with
 | none=>none
 | some s=>some ({A with st:=VA A.st (s/16) (size/16),S:=ZU A.n A.S s size},mapS sp s size)
def Qe (m:Nat):Nat:=if m<=16 then 16 else if m<=32 then 32 else 64
def useA (A:AR)(x pages no:Nat):AR:={A with S:=take A.S x (x+pages),st:=Vj A.st x pages 1 [2,3],ow:=setO A.ow x pages no}
def getA (A:AR)(sp:Sp)(pages align no:Nat):Option Nat×AR×Sp:=match YR A.n A.S pages align with
 | some x=>(some x,useA A x pages no,sp)
 | none=>match VE A sp (Qe (max pages align))with
  | none=>(none,A,sp)
  | some (A',sp')=>match YR A'.n A'.S pages align with
   | some x=>(some x,useA A' x pages no,sp')
   | none=>(none,A',sp')
def Zu (A:AR)(k:Int):Int:=if A.ck k then(match A.tra[k.toNat]? with
 | some t=>if t.bs=[]then 4 else 0
 | none=>5)else 1
def Ye (A:AR)(k:Int):List Int:=if Zu A k=0 then(match A.tra[k.toNat]? with
 | some t=>t.bs.getLast?.getD []
 | none=>[])else[]
def Zf (A:AR)(k:Int):AR:=if Zu A k=0 then{A with tra:=A.tra.modify k.toNat TrA.rem}else A
def V5 (A:AR)(k:Int)(xs:List Int):Int:=if A.ck k then(match A.tb[k.toNat]?,A.cen[k.toNat]? with
 | some c,some ss=>if xs.length=c.batch then(if xs.all (λx=>isTk c ss x==some true)then 0 else 8)else 1
 | _,_=>5)else 1
def Kb (A:AR)(k:Int)(xs:List Int):Bool:=decide (V5 A k xs=0)&&(match A.tra[k.toNat]? with
 | some t=>decide (t.bs.length<A.room)
 | none=>false)
def Qh (A:AR)(k:Int)(xs:List Int):AR:=if Kb A k xs then{A with tra:=A.tra.modify k.toNat λt=>{t with bs:=t.bs++[xs]}}else A
def ZS (A:AR)(k m:Int):Int:=if A.ck k then(if m<0 then 1 else 0)else 1
def Kf (A:AR)(k m:Int):List Nat×List SpA:=match A.tb[k.toNat]?,A.cen[k.toNat]? with
 | some c,some ss=>Qg c m.toNat ss
 | _,_=>([],[])
def XZ (A:AR)(k m:Int):List Nat:=if ZS A k m=0 then(Kf A k m).1 else[]
def Yg (A:AR)(k m:Int):AR:=if ZS A k m=0 then{A with cen:=A.cen.set k.toNat (Kf A k m).2}else A
def Z6 (A:AR)(k:Int)(xs:List Int):Int:=if A.ck k then(match A.tb[k.toNat]?,A.cen[k.toNat]? with
 | some c,some ss=>putE c ss xs
 | _,_=>5)else 1
def Zb (A:AR)(k:Int)(xs:List Int):AR:=if Z6 A k xs=0 then(match A.tb[k.toNat]?,A.cen[k.toNat]? with
 | some c,some ss=>KX {A with cen:=A.cen.set k.toNat (sweep (xs.foldl (put1 c) ss))} ((ZH (xs.foldl (put1 c) ss)).map λs=>(s,c.pages))
 | _,_=>A)else A
def QR (A:AR)(sp:Sp)(k:Int):Int:=if A.ck k then(match A.tb[k.toNat]?,A.cen[k.toNat]? with
 | some c,some ss=>(match (getA A sp c.pages 1 (k.toNat+1)).1 with
  | some x=>UR c ss x
  | none=>6)
 | _,_=>5)else 1
def growS (A:AR)(sp:Sp)(k:Int):AR×Sp:=if A.ck k then(match A.tb[k.toNat]?,A.cen[k.toNat]? with
 | some c,some ss=>(match getA A sp c.pages 1 (k.toNat+1)with
  | (some x,A',sp')=>(if UR c ss x=0 then{A' with cen:=A'.cen.set k.toNat (addS c ss x)}else A',sp')
  | (none,A',sp')=>(A',sp'))
 | _,_=>(A,sp))else(A,sp)
def Qo (m a:Int):Bool:=decide (1<=m)&&(decide (m<=64)&&(a==1||(a==2||(a==4||(a==8||a==16)))))
def ZO (A:AR)(sp:Sp)(m a:Int):Int:=if Qo m a then(if(getA A sp m.toNat a.toNat 41).1.isSome then 0 else 6)else 1
def Zt (A:AR)(sp:Sp)(m a:Int):Nat:=if Qo m a then(getA A sp m.toNat a.toNat 41).1.getD 0 else 0
def takeAS (A:AR)(sp:Sp)(m a:Int):AR×Sp:=if Qo m a then(match getA A sp m.toNat a.toNat 41 with
 | (some x,A',sp')=>({A' with runs:=mset2 A'.runs x m.toNat},sp')
 | (none,A',sp')=>(A',sp'))else(A,sp)
where mset2 (l:List (Nat×Nat)) (x m:Nat):List (Nat×Nat):=if l.any (λr=>r.1==x)then l.map (λr=>if r.1==x then(x,m)else r)else l++[(x,m)]
def Gy (A:AR)(x:Int):Option (Nat×Nat):=A.runs.find? λr=>(r.1:Int)==x
def QS (A:AR)(x:Int):Int:=if(Gy A x).isSome then 0 else 8
def ZT (A:AR)(x:Int):AR:=match Gy A x with
 | some r=>KO {A with runs:=A.runs.filter λq=>!((q.1:Int)==x)} r
 | none=>A
def WbY (A:AR)(p:Nat):Option (Nat×Nat):=A.runs.find? λr=>decide (r.1<=p)&&decide (p<r.1+r.2)
def VQ (A:AR)(x:Int):Option (Int×Nat):=if x<0 then none else
 let p:=x.toNat/256
 let no:=if p<1024 then A.ow p else 0
 if no=0 then none else if no=41 then(WbY A p).map λr=>(-1,r.1*256)else
 match A.tb[no-1]?,A.cen[no-1]? with
 | some c,some ss=>(Wap c ss x).map λa=>(((no-1:Nat):Int),a)
 | _,_=>none
def WfQ (A:AR)(x:Int):Bool:=match VQ A x with
 | some (k,a)=>if(a:Int)=x then(if k<0 then true else(match A.tb[k.toNat]?,A.cen[k.toNat]? with
  | some c,some ss=>isTk c ss x==some true
  | _,_=>false))else false
 | none=>false
def VB (A:AR)(p:Int):Bool:=decide (0<=p)&&decide (A.st.getD p.toNat 0≠0)
def Wen (A:AR)(k:Nat):AR:=match A.tra[k]? with
 | some t=>t.out.foldl (λA' xs=>Zb A' k xs) {A with tra:=A.tra.set k t.tick}
 | none=>A
def Wbk (A:AR):AR:=(List.range A.tra.length).foldl Wen A
def KV (A:AR):Nat:=((A.tb.zip A.tra).map λx=>x.2.bs.flatten.length*x.1.size).sum
def HD (A:AR):Nat:=((A.tb.zip A.cen).map λx=>Qx x.2*x.1.size).sum
def Ve (A:AR):Nat:=((A.tb.zip A.cen).map λx=>x.2.length*x.1.tail).sum
def KU (A:AR):Nat:=((A.tb.zip A.cen).map λx=>x.2.length*x.1.pages).sum
def KZ (A:AR):Nat:=(A.runs.map (·.2)).sum
end Go.Ar
namespace Go.Ar
open Go.Vc (mget mset mdel)
inductive Ph where
 | take (k:Nat)
 | transfer (k w:Nat)
 | central (k w:Nat)
 | grow (k w:Nat)
 | fill
 | large (m:Nat)
 | find (x:Int)
 | put (k:Nat) (x:Int)
 | back
 | give (s a:Int)
 | drain
 deriving DecidableEq
structure Th where
 ls:List Li
 hands:List Bt
 ph:Option Ph
structure Cf where
 pages:Nat
 arenas:Nat
 threads:Nat
 budget:Nat
 room:Nat
abbrev Bk:=Int×Int×Int×Int
structure Hw where
 tb:List Cls
 cf:Cf
 sp:Sp
 ars:List AR
 ths:List Th
 live:List (Int×Bk)
def Yd (ars:List AR)(x:Int):Int:=if x<0 then -1 else match ars.findIdx? (λA=>VB A (x/256))with
 | some i=>(i:Int)
 | none=>-1
def Hw.own (H:Hw)(t:Nat):Nat:=t%H.ars.length
def Hw.setT (H:Hw)(t:Nat)(f:Th->Th):Hw:={H with ths:=H.ths.modify t f}
def Hw.setA (H:Hw)(k:Nat)(A:AR):Hw:={H with ars:=H.ars.set k A}
def Kq (H:Hw)(x size cls:Int):Hw:={H with live:=mset H.live x (x,size,cls,Yd H.ars x)}
def Z1 (H:Hw)(t k:Nat)(xs:List Int):Hw:=H.setT t λh=>{h with hands:=h.hands++[(k,xs)]}
def retH (H:Hw)(t:Nat):Option Ph:=match H.ths[t]? with
 | some h=>if h.hands=[]then none else some .back
 | none=>none
def Zh (ars:List AR)(xs:List Int)(a:Nat):List Int:=xs.filter λx=>Yd ars x==(a:Int)
def Q3 (H:Hw)(k:Nat)(part:Nat->List Int)(l:List Nat):Hw:=l.foldl (λH a=>match H.ars[a]? with
 | some A=>if part a=[]then H else H.setA a (Zb A (k:Int) (part a))
 | none=>H) H
def Uz (H:Hw)(own k:Nat)(xs:List Int):Hw:=match H.ars[own]? with
 | some A=>if(Zh H.ars xs own).length=xs.length/\Kb A (k:Int) xs=true then H.setA own (Qh A (k:Int) xs)
  else Q3 (if(Zh H.ars xs own).length=xs.length then H.setA own (Qh A (k:Int) xs)else H) k (Zh H.ars xs) (List.range H.ars.length)
 | none=>H
abbrev OutH:=Hw×Option Ph×Int×Int
def whyH (H:Hw)(x:Int):Int:=if 0<=Yd H.ars x then(match H.ars[(Yd H.ars x).toNat]? with
 | some A=>(match VQ A x with
  | some (k,y)=>if 0<=k/\(y:Int)=x then 9 else 8
  | none=>8)
 | none=>8)else 8
def VI (H:Hw)(t:Nat)(x:Int):OutH:=match mget H.live x with
 | none=>(H,none,0,whyH H x)
 | some b=>if b.2.2.1<0 then({H with live:=mdel H.live x},some (.give (x/256) b.2.2.2),0,0)
  else(Z1 {H with live:=mdel H.live x} t b.2.2.1.toNat [x],some (.put b.2.2.1.toNat x),0,0)
def Hw.thr (H:Hw)(t:Nat):Th:=H.ths.getD t ⟨[],[],none⟩
def Hw.cls (H:Hw)(k:Nat):Cls:=H.tb.getD k ⟨8,1,1⟩
def Hw.arn (H:Hw)(t:Nat):AR:=H.ars.getD (H.own t) ⟨0,0,[],λ_=>false,[],λ_=>0,[],[],[]⟩
def Th.li (h:Th)(k:Nat):Li:=h.ls.getD k liN
def Th.setL (h:Th)(k:Nat)(l:Li):Th:={h with ls:=h.ls.set k l}
def putH (H:Hw)(t k:Nat)(x:Int):Hw:=
 let c:=H.cls k
 let l:=(H.thr t).li k
 let H1:=H.setT t λh=>h.setL k (putL c x l).2
 let H2:=if(putL c x l).1=[]then H1 else Z1 H1 t k (putL c x l).1
 let H3:=H2.setT t λh=>{h with hands:=h.hands.drop 1}
 if H.cf.budget<ZI H.tb (H3.thr t).ls then H3.setT t λh=>{h with ls:=Qi QM H.tb h.ls,hands:=h.hands++Qj QM H.tb h.ls}else H3
def Wp (H:Hw)(t:Nat):Ph->OutH
 | .take k=>match Qk (H.cls k) ((H.thr t).li k)with
  | (some x,l)=>(Kq (H.setT t λh=>h.setL k l) x ((H.cls k).size:Int) (k:Int),none,x,0)
  | (none,l)=>(H.setT t λh=>h.setL k l,some (.transfer k (Hy (H.cls k) l)),0,0)
 | .transfer k w=>if w=(H.cls k).batch then(if Zu (H.arn t) (k:Int)=0 then(Z1 (H.setA (H.own t) (Zf (H.arn t) (k:Int))) t k (Ye (H.arn t) (k:Int)),some .fill,0,0)else(H,some (.central k w),0,0))else(H,some (.central k w),0,0)
 | .central k w=>
  let H1:=H.setA (H.own t) (Yg (H.arn t) (k:Int) (w:Int))
  if XZ (H.arn t) (k:Int) (w:Int)=[]then(H1,some (.grow k w),0,0)else(Z1 H1 t k ((XZ (H.arn t) (k:Int) (w:Int)).map λ(x:Nat)=>(x:Int)),some .fill,0,0)
 | .grow k w=>
  let r:=growS (H.arn t) H.sp (k:Int)
  let H1:={H.setA (H.own t) r.1 with sp:=r.2}
  if QR (H.arn t) H.sp (k:Int)=0 then(H1,some (.central k w),0,0)else(H1,none,0,QR (H.arn t) H.sp (k:Int))
 | .fill=>match (H.thr t).hands with
  | (k,x::xs)::_=>(Kq (H.setT t λh=>{ls:=h.ls.set k (addL xs.reverse (h.li k)),hands:=[],ph:=h.ph}) x ((H.cls k).size:Int) (k:Int),none,x,0)
  | _=>(H,none,0,0)
 | .large m=>
  let r:=takeAS (H.arn t) H.sp (m:Int) 1
  let H1:={H.setA (H.own t) r.1 with sp:=r.2}
  let x:Int:=((Zt (H.arn t) H.sp (m:Int) 1*256:Nat):Int)
  if ZO (H.arn t) H.sp (m:Int) 1=0 then(Kq H1 x ((m*256:Nat):Int) (-1),none,x,0)else(H1,none,0,ZO (H.arn t) H.sp (m:Int) 1)
 | .find x=>VI H t x
 | .put k x=>(putH H t k x,retH (putH H t k x) t,0,0)
 | .back=>match (H.thr t).hands with
  | (k,xs)::r=>
   let H1:=Uz (H.setT t λh=>{h with hands:=r}) (H.own t) k xs
   (H1,retH H1 t,0,0)
  | []=>(H,none,0,0)
 | .give s a=>(match H.ars[a.toNat]? with
  | some A=>H.setA a.toNat (ZT A s)
  | none=>H,none,0,0)
 | .drain=>
  let H1:=H.setT t λh=>{h with ls:=Qi Zj H.tb h.ls,hands:=Qj Zj H.tb h.ls}
  (H1,retH H1 t,0,0)
end Go.Ar
namespace Go.Proofs
open Go.Vc
set_option maxRecDepth 100000
def Y5.h:Hn:=.q .o1 (.q (.q (.reg (.seq [.op,.op,.op,.op,.grd false 3 (RI.ops 3)])) (.c (.q .o1 .l) .l)) (.q (.q .o3 (.k (.loop [(15,.I)] (.q .o1 (.q (.c .l .l) (.q (.k (.q .o6 (.q (.reg (.heldJ true [1] [(37,.one .b)] (.take 0 (.all [(1,.take 2 (.take 3 (.split 23 (.take 4 (.take 5 (.take 6 (.take 7 (.take 8 (.take 9 (.take 10 (.take 11 (.take 12 (.take 13 (.take 14 (.take 15 (.take 16 (.take 17 (.done))))))))))))))) (.take 4 (.take 5 (.take 6 (.split 26 (.take 7 (.take 9 (.take 10 (.take 11 (.take 12 (.take 13 (.all [(8,.all [(14,.take 15 (.take 16 (.take 17 (.done))))]),(14,.all [(8,.take 15 (.take 16 (.take 17 (.done))))])]))))))) (.take 7 (.take 8 (.take 9 (.take 10 (.take 11 (.take 12 (.take 13 (.take 14 (.take 15 (.take 16 (.take 17 (.done)))))))))))))))))))])))) (.c (.q .o1 .l) .l)))) .o2)))))) (.q .o1 .l)))
def Y5.v (a:Sl)(b:Hp)(c:Bool->Hp->Prop):Prop:=JnB (λd e=>If d (c false e) (XL [(.i .i64)] (λf=>f 0 e) λg (h:Int) i=>If (h<((a.len:Nat):Int)) (Ix a.a a.len h 3 λj=>LdI .i64 (j.add 0) i λk=>LdI .i64 (j.add 1) i λl=>LdI .i64 (j.add 2) i λm=>Nw (.cells #[.I 0,.I 0,.I 0] 31 (0,0)) i λn o=>St1 (n.add 0) (.I k) o λp=>St1 (n.add 1) (.I l) p λq=>St1 (n.add 2) (.I m) q λr=>Jn [.b] (λ(s:Bool) t=>If s (c false t) (Ar .i64 (h+1) λu=>g u t)) λv=>Held r λw=>LdH w (.i .i64) (n.add 0) λ(x:Int)=>LdH w (.i .i64) (n.add 1) λ(y:Int)=>LdH w (.i .i64) (n.add 2) λ(z:Int)=>ZN.c x y z r λaa ab=>If (!aa) (v true ab) (If (h>0) (Ar .i64 (h-1) λac=>Ix a.a a.len ac 3 λad=>(LdI .i64 (n.add 0) ab λae=>LdI .i64 (ad.add 0) ab λaf=>v (decide (ae<=af)) ab) ∧ (LdI .i64 (ad.add 0) ab λag=>LdI .i64 (n.add 0) ab λah=>v (decide (ah<=ag)) ab)) (v false ab))) (c true i))) λai=>If (((a.len:Nat):Int)<1) (ai true b) (ai (decide (((a.len:Nat):Int)>40)) b)
theorem Y5.o {a b c}(d:Y5.v a b c):Y5.c a b c:=Wa Tryz.func40 (x:=Y5.h) (R0 d)
def Zo.h:Hn:=.q .o4 (.q (.k (.q .o4 (.c (.q .o2 .l) (.q (.reg (.heldJ true [] [(13,.one .b)] (.take 0 (.take 1 (.take 2 (.split 16 (.take 3 (.take 4 (.take 5 (.take 6 (.take 7 (.take 8 (.take 9 (.take 10 (.take 11 (.take 12 (.take 13 (.take 14 (.take 15 (.take 16 (.done))))))))))))))) (.take 3 (.take 4 (.take 5 (.take 6 (.split 20 (.take 7 (.take 8 (.take 9 (.take 10 (.take 11 (.take 12 (.take 13 (.take 14 (.take 15 (.take 16 (.done))))))))))) (.take 7 (.take 8 (.take 9 (.take 10 (.split 24 (.take 11 (.take 12 (.take 13 (.take 14 (.take 15 (.take 16 (.done))))))) (.take 11 (.take 13 (.all [(12,.take 14 (.take 15 (.take 16 (.done))))]))))))))))))))))))) (.c (.q .o2 .l) .l))))) (.q .o4 (.q (.q .o2 (.c (.q .o2 .l) .l)) (.q .o3 .l))))
def Zo.v (a:Sl)(b c:Int)(d:Hp)(e:Int->Int->Hp->Prop):Prop:=Nw (.cells #[.I b] 3 (0,0)) d λf g=>Nw (.cells #[.I c] 3 (0,0)) g λh i=>Y5.c a i λj k=>If (!j) (e 0 2 k) (Jn [.b] (λ(l:Bool) m=>If l (e 0 1 m) (Wk.c a ⟨80,#[],#[.pointer (some f),.pointer (some h)]⟩ m λn o=>If (n<0) (e 0 4 o) (e n 0 o))) λp=>Held k λq=>LdH q (.i .i64) f λ(r:Int)=>If (r<1) (p true k) (LdH q (.i .i64) h λ(s:Int)=>If (s<1) (p true k) (LdH q (.i .i64) h λ(t:Int)=>If (t>256) (p true k) (LdH q (.i .i64) h λ(u:Int)=>LdH q (.i .i64) h λ(v:Int)=>Zy.c u k λw x=>And (q x) <| p (w != v) x))))
theorem Zo.o {a b c d e}(f:Zo.v a b c d e):Zo.c a b c d e:=Wa Tryz.func41 (x:=Zo.h) (R0 f)
def YB.h:Hn:=.q .o3 (.q (.q .o3 (.c (.q .o2 .l) .l)) (.q .o4 .l))
def YB.v (a b c:Int)(d:Hp)(e:Int->Int->Hp->Prop):Prop:=Nw (.cells #[.I a,.I b,.I c] 31 (0,0)) d λf g=>LdI .i64 (f.add 0) g λh=>LdI .i64 (f.add 1) g λi=>LdI .i64 (f.add 2) g λj=>ZN.c h i j g λk l=>If (!k) (e 0 1 l) (LdI .i64 (f.add 0) l λm=>LdI .i64 (f.add 1) l λn=>LdI .i64 (f.add 2) l λo=>Y7.c m n o l λp q=>e p 0 q)
theorem YB.o {a b c d e}(f:YB.v a b c d e):YB.c a b c d e:=Wa Tryz.func42 (x:=YB.h) (R0 f)
def ZE.h:Hn:=.q .o3 (.q (.q .o3 (.c (.q .o2 .l) .l)) (.q (.reg (.held true [] (.take 0 (.take 1 (.take 2 (.take 3 (.take 5 (.take 6 (.all [(4,.take 7 (.take 8 (.take 9 (.take 10 (.done)))))]))))))))) .l))
def ZE.v (a b c:Int)(d:Hp)(e:Int->Int->Hp->Prop):Prop:=Nw (.cells #[.I a,.I b,.I c] 31 (0,0)) d λf g=>LdI .i64 (f.add 0) g λh=>LdI .i64 (f.add 1) g λi=>LdI .i64 (f.add 2) g λj=>ZN.c h i j g λk l=>If (!k) (e 0 1 l) (Held l λm=>LdH m (.i .i64) (f.add 1) λ(n:Int)=>Ar .i64 (n*256) λo=>LdH m (.i .i64) (f.add 0) λ(p:Int)=>LdH m (.i .i64) (f.add 1) λ(q:Int)=>LdH m (.i .i64) (f.add 2) λ(r:Int)=>LdH m (.i .i64) (f.add 0) λ(s:Int)=>Y7.c p q r l λt u=>And (m u) <| Ar .i64 (t*s) λv=>Ar .i64 (o-v) λw=>e w 0 u)
theorem ZE.o {a b c d e}(f:ZE.v a b c d e):ZE.c a b c d e:=Wa Tryz.func43 (x:=ZE.h) (R0 f)
def ZN.h:Hn:=.q .o2 (.q (.reg (.seq [.op,.op,.op,.op,.grd true 3 (RI.ops 3),.op,.grd true 4 (RI.ops 4),.op,.grd true 3 (RI.ops 3),.op,.grd true 3 (RI.ops 3),.op,.grd true 6 (RI.ops 6),.op,.grd true 3 (RI.ops 3),.op,.grd true 3 (RI.ops 3),.op])) .l)
def ZN.v (a b c:Int)(d:Hp)(e:Bool->Hp->Prop):Prop:=Nw (.cells #[.I a,.I b,.I c] 31 (0,0)) d λf g=>LdI .i64 (f.add 0) g λh=>JnB (λi j=>JnB (λk l=>JnB (λm n=>JnB (λo p=>JnB (λq r=>JnB (λs t=>JnB (λu v=>e u v) λw=>If s (LdI .i64 (f.add 2) t λx=>w (decide (x<=32)) t) (w false t)) λy=>If q (LdI .i64 (f.add 2) r λz=>y (decide (z≥1)) r) (y false r)) λaa=>If o (LdI .i64 (f.add 1) p λab=>Ar .i64 (ab*256) λac=>LdI .i64 (f.add 0) p λad=>aa (decide (ac≥ad)) p) (aa false p)) λae=>If m (LdI .i64 (f.add 1) n λaf=>ae (decide (af<=4)) n) (ae false n)) λag=>If k (LdI .i64 (f.add 1) l λah=>ag (decide (ah≥1)) l) (ag false l)) λai=>If i (LdI .i64 (f.add 0) j λaj=>Nz 8 <| ai ((aj.tmod 8)==0) j) (ai false j)) λak=>If (h≥8) (LdI .i64 (f.add 0) g λal=>ak (decide (al<=512)) g) (ak false g)
theorem ZN.o {a b c d e}(f:ZN.v a b c d e):ZN.c a b c d e:=Wa Tryz.func77 (x:=ZN.h) (R0 f)
def Zy.h:Hn:=.q .o1 (.q .o1 (.q (.q .o1 (.k (.loop [(3,.I),(4,.I)] (.q (.q .o3 (.c .l .l)) (.q (.k .o2) .o3))))) (.q .o2 .l)))
def Zy.v (a:Int)(b:Hp)(c:Int->Hp->Prop):Prop:=XL [(.i .i64),(.i .i64)] (λd=>d 0 1 b) λe (f:Int) (g:Int) h=>If (g<=a) (Ar .i64 (g*2) λi=>e g i h) (c f h)
theorem Zy.o {a b c}(d:Zy.v a b c):Zy.c a b c:=Wa Tryz.func78 (x:=Zy.h) (R0 d)
def Zk.h:Hn:=.q .o2 (.q (.reg (.seq [.op,.op,.op,.op,.op,.grd true 5 (RI.ops 5),.op])) .l)
def Zk.v (a b c:Int)(d e:Addr)(f:Hp)(g:Bool->Hp->Prop):Prop:=Nw (.cells #[.I a,.I b,.I c] 31 (0,0)) f λh i=>LdI .i64 (h.add 0) i λj=>LdI .i64 d i λk=>JnB (λl m=>g l m) λn=>If (j≥k) (LdI .i64 (h.add 0) i λo=>LdI .i64 e i λp=>Nz p <| n ((o.tmod p)==0) i) (n false i)
theorem Zk.o {a b c d e f g}(h:Zk.v a b c d e f g):Zk.c a b c d e f g:=Wa Tryz.func80 (x:=Zk.h) (R0 h)
def Y7.h:Hn:=.q .o2 (.q .o7 .l)
def Y7.v (a b c:Int)(d:Hp)(e:Int->Hp->Prop):Prop:=Nw (.cells #[.I a,.I b,.I c] 31 (0,0)) d λf g=>LdI .i64 (f.add 1) g λh=>Ar .i64 (h*256) λi=>LdI .i64 (f.add 0) g λj=>Nz j<|Ar .i64 (i.tdiv j) λk=>e k g
theorem Y7.o {a b c d e}(f:Y7.v a b c d e):Y7.c a b c d e:=Wa Tryz.func81 (x:=Y7.h) (R0 f)
end Go.Proofs
namespace Go.Ar
open Go Go.Vc Go.Proofs
variable {σ:Hp}
theorem WfB (x y z:Int){R:Bool->Hp->Prop}(hR:∀σ',Ext0 σ σ'->R (QP x y z) σ'):ZN.c x y z σ R:=by
 refine ZN.o ?_;unfold ZN.v;refine nw (cs:=[.int .i64 x,.int .i64 y,.int .i64 z]) λh hz e hb=>?_;have no:QP x y z=false->R false h:=λhn=>hn▸hR h e;have neg:¬(8<=x/\x<=512/\x%8=0/\1<=y/\y<=4/\x<=y*256/\1<=z/\z<=32)->R false h:=λhn=>no (by rw[←zBJ,QO];exact hn);refine hb.rI rfl (JnB.intro ?_);refine ifD (λh1=>hb.rI rfl (JnB.intro ?_)) λh1=>?_
 case refine_2=>
  iterate 6 refine JnB.intro (ifF rfl ?_)
  exact neg (by omega)
 refine ifD (λh2=>hb.rI rfl (nz (by decide) (JnB.intro ?_))) λh2=>?_
 case refine_2=>
  iterate 5 refine JnB.intro (ifF rfl ?_)
  exact neg (by omega)
 rw[Qw (by omega)];refine iff_ (λh3=>hb.rI rfl (JnB.intro ?_)) λh3=>?_
 case refine_2=>
  have:¬x%8=0:=by simpa using h3
  iterate 4 refine JnB.intro (ifF rfl ?_)
  exact neg (by omega)
 have h3':x%8=0:=by simpa using h3
 refine ifD (λh4=>hb.rI rfl (JnB.intro ?_)) λh4=>?_
 case refine_2=>
  iterate 3 refine JnB.intro (ifF rfl ?_)
  exact neg (by omega)
 refine ifD (λh5=>hb.rI rfl (ar (by omega) (by omega) (hb.rI rfl (JnB.intro ?_)))) λh5=>?_
 case refine_2=>
  iterate 2 refine JnB.intro (ifF rfl ?_)
  exact neg (by omega)
 refine ifD (λh6=>hb.rI rfl (JnB.intro ?_)) λh6=>?_
 case refine_2=>exact JnB.intro (ifF rfl (neg (by omega)))
 refine ifD (λh7=>hb.rI rfl ?_) λh7=>neg (by omega);have:decide (z<=32)=QP x y z:=by
  rw[zBF,QO];simp;omega
 rw[this];exact hR h e
theorem G5 {c:Cls}(hc:c.ok){R:Int->Hp->Prop}(hR:∀σ',Ext0 σ σ'->R (c.n:Int) σ'):Y7.c c.size c.pages c.batch σ R:=by
 refine Y7.o ?_;unfold Y7.v;have h:=hc;unfold Cls.ok at h;refine nw (cs:=[.int .i64 c.size,.int .i64 c.pages,.int .i64 c.batch]) λh hz e hb=>?_;refine hb.rI rfl (arN (m:=c.pages*256) (by simp) (by omega) (hb.rI rfl (nz (by omega) ?_)));refine arN (m:=c.n) ?_ (by have:=hc.n_le;omega) (hR _ e);rw[YQ (by omega)];simp[Cls.n]
theorem Vv (x y z:Int){R:Int->Int->Hp->Prop}(h1:∀c:Cls,c.ok->x=c.size->y=c.pages->z=c.batch->∀σ',Ext0 σ σ'->R (c.n:Int) 0 σ')(h0:QP x y z=false->∀σ',Ext0 σ σ'->R 0 1 σ'):YB.c x y z σ R:=by
 refine YB.o ?_;unfold YB.v;refine nw (cs:=[.int .i64 x,.int .i64 y,.int .i64 z]) λh hz e hb=>?_;refine hb.rI rfl (hb.rI rfl (hb.rI rfl (WfB _ _ _ λh2 e2=>?_)));have hb2:=e2.blk hb id;cases hk:QP x y z
 ·exact ifT rfl (h0 hk _ (e.trans e2))
 ·obtain⟨c,hc,_,rfl,rfl,rfl⟩:=Hc hk;exact ifF rfl (hb2.rI rfl (hb2.rI rfl (hb2.rI rfl (G5 hc λh3 e3=>h1 c hc rfl rfl rfl _ ((e.trans e2).trans e3)))))
theorem WeJ {c:Cls}(hc:c.ok){R:Int->Int->Hp->Prop}(hR:∀σ',Ext0 σ σ'->R (c.tail:Int) 0 σ'):ZE.c c.size c.pages c.batch σ R:=by
 refine ZE.o ?_;unfold ZE.v;have h:=hc;unfold Cls.ok at h;refine nw (cs:=[.int .i64 c.size,.int .i64 c.pages,.int .i64 c.batch]) λh1 hz e hb=>?_;refine hb.rI rfl (hb.rI rfl (hb.rI rfl (WfB _ _ _ λh2 e2=>?_)));rw[(Vg c).2 hc];have hb2:=e2.blk hb id;refine ifF rfl ?_;refine⟨λh'=>Blk h' σ.size [.int .i64 c.size,.int .i64 c.pages,.int .i64 c.batch],hb2,⟨_,λh' hS=>by rw[add_lit,hS.cell];rfl,?_⟩⟩;refine arN (m:=c.pages*256) (by simp) (by omega) ?_;refine⟨_,λh' hS=>by rw[add_lit,hS.cell];rfl,⟨_,λh' hS=>by rw[add_lit,hS.cell];rfl,⟨_,λh' hS=>by rw[add_lit,hS.cell];rfl,⟨_,λh' hS=>by rw[add_lit,hS.cell];rfl,?_⟩⟩⟩⟩;refine G5 hc λh3 e3=>⟨e3.blk hb2 id,?_⟩;have hm:=c.n_mul;refine arN (m:=c.n*c.size) (by simp) (by omega) (arN (m:=c.tail) (by unfold Cls.tail;omega) (by unfold Cls.tail;omega) (hR _ ((e.trans e2).trans e3)))
end Go.Ar
namespace Go.Proofs
open Go.Vc
set_option maxRecDepth 100000
def XG.h:Hn:=.q .o1 (.q (.q (.reg (.seq [.op,.op,.op,.op,.grd false 2 [.op,.op],.op,.grd false 7 (RI.ops 7)])) (.c (.q .o1 .l) .l)) (.q .o8 .l))
def XG.v (a:R2)(b:Int)(c:Hp)(d:Int->Hp->Prop):Prop:=W9.c a c λe f=>JnB (λg h=>JnB (λi j=>If i (d (-1) j) (NilP a λk=>LdS (k.add 0) j λl=>Ix l.a l.len b 1 λm=>LdI .i64 m j λn=>d n j)) λo=>If g (o true h) (NilP a λp=>LdS (p.add 0) h λq=>o (decide (b≥((q.len:Nat):Int))) h)) λr=>If (!e) (r true f) (r (decide (b<0)) f)
theorem XG.o {a b c d}(e:XG.v a b c d):XG.c a b c d:=Wa Tryz.func143 (x:=XG.h) (R0 e)
def W9.h:Hn:=.q .o1 (.q (.reg (.seq [.op,.op,.op,.grd true 6 (RI.ops 6),.op])) .l)
def W9.v (a:R2)(b:Hp)(c:Bool->Hp->Prop):Prop:=JnB (λd e=>c d e) λf=>If (!a.isNone) (NilP a λg=>LdS (g.add 0) b λh=>f (decide (((h.len:Nat):Int)>0)) b) (f false b)
theorem W9.o {a b c}(d:W9.v a b c):W9.c a b c:=Wa Tryz.func149 (x:=W9.h) (R0 d)
def QA.h:Hn:=.q .o2 (.q (.q (.reg (.seq [.op,.op,.op,.grd false 2 [.op,.op],.op,.grd false 3 (RI.ops 3)])) (.c (.q .o2 .l) .l)) (.q .o6 .l))
def QA.v (a:Int)(b:Hp)(c:Option Addr->Int->Hp->Prop):Prop:=JnB (λd e=>JnB (λf g=>If f (c none 1 g) (Mk a a 8 3 [.I 0] g λh i=>Nw (.cells #[.slice h.a h.len h.cap] 231 (0,0)) i λj k=>c (some j) 0 k)) λl=>If d (l true e) (Nz 16 <| l ((a.tmod 16) != 0) e)) λm=>If (a<16) (m true b) (m (decide (a>1024)) b)
theorem QA.o {a b c}(d:QA.v a b c):QA.c a b c:=Wa Tryz.func155 (x:=QA.h) (R0 d)
def Xc.h:Hn:=.q .o1 (.q .o6 .l)
def Xc.v (a:R2)(b c:Int)(d:Hp)(e:Int->Hp->Prop):Prop:=Nw (.cells #[.I 1] 3 (0,0)) d λf g=>Xv.c a b c 2 ⟨some f,1,1⟩ g λh i=>e h i
theorem Xc.o {a b c d e}(f:Xc.v a b c d e):Xc.c a b c d e:=Wa Tryz.func225 (x:=Xc.h) (R0 f)
def Yt.h:Hn:=.q .o1 (.q .o7 .l)
def Yt.v (a:R2)(b:Hp)(c:Int->Hp->Prop):Prop:=NilP a λd=>LdS (d.add 0) b λe=>Nz 16<|Ar .i64 (((e.len:Nat):Int).tdiv 16) λf=>c f b
theorem Yt.o {a b c}(d:Yt.v a b c):Yt.c a b c:=Wa Tryz.func229 (x:=Yt.h) (R0 d)
def ZQ.h:Hn:=.q .o1 (.q .o1 (.q (.q .o3 (.k (.loop [(5,.I),(10,.I)] (.q .o1 (.q (.c .l .l) (.q (.k (.q .o3 (.q .o3 (.c .o3 .l)))) .o2)))))) (.q .o2 .l)))
def ZQ.v (a:Sl)(b:Int)(c:Hp)(d:Int->Hp->Prop):Prop:=XL [(.i .i64),(.i .i64)] (λe=>e 0 0 c) λf (g:Int) (h:Int) i=>If (h<((a.len:Nat):Int)) (Ix a.a a.len h 1 λj=>LdI .i64 j i λk=>If (k==b) (Ar .i64 (g+1) λl=>Ar .i64 (h+1) λm=>f l m i) (Ar .i64 (h+1) λn=>f g n i)) (d g i)
theorem ZQ.o {a b c d}(e:ZQ.v a b c d):ZQ.c a b c d:=Wa Tryz.func230 (x:=ZQ.h) (R0 e)
def YI.h:Hn:=.q .o1 (.q (.o 11) .l)
def YI.v (a:R2)(b:Int)(c:Hp)(d:Sl->Hp->Prop):Prop:=NilP a λe=>LdS (e.add 0) c λf=>Ar .i64 (b*16) λg=>Ar .i64 (b+1) λh=>Ar .i64 (h*16) λi=>SlcL f 1 g i (f.cap:Nat) λj=>d j c
theorem YI.o {a b c d}(e:YI.v a b c d):YI.c a b c d:=Wa Tryz.func231 (x:=YI.h) (R0 e)
def Xv.h:Hn:=.q .o2 (.q (.k (.q .o4 (.c (.q .o1 .l) (.q (.reg (.seq [.op,.op,.op,.grd false 2 [.op,.op],.op,.grd false 7 (RI.ops 7),.op,.grd false 9 (RI.ops 9),.op])) (.c (.q .o1 .l) .l))))) (.q .o10 (.q (.q .o3 (.c (.q .o1 .l) .l)) (.q .o3 (.q .o1 .l)))))
def Xv.v (a:R2)(b c d:Int)(e:Sl)(f:Hp)(g:Int->Hp->Prop):Prop:=Nw (.cells #[.slice e.a e.len e.cap] 69 (0,0)) f λh i=>W9.c a i λj k=>If (!j) (g 5 k) (JnB (λl m=>JnB (λn o=>JnB (λp q=>If p (g 1 q) (NilP a λr=>LdS (r.add 0) q λs=>Ar .i64 (b+c) λt=>SlcL s 1 b t (s.cap:Nat) λu=>Ws.c u ⟨269,#[],#[.pointer (some h)]⟩ q λv w=>If v (g 5 w) (ZM.c u d w λx=>g 0 x))) λy=>If n (y true o) (NilP a λz=>LdS (z.add 0) o λaa=>Ar .i64 (((aa.len:Nat):Int)-b) λab=>y (decide (c>ab)) o)) λac=>If l (ac true m) (NilP a λad=>LdS (ad.add 0) m λae=>ac (decide (b>((ae.len:Nat):Int))) m)) λaf=>If (b<0) (af true k) (af (decide (c<1)) k))
theorem Xv.o {a b c d e f g}(h:Xv.v a b c d e f g):Xv.c a b c d e f g:=Wa Tryz.func235 (x:=Xv.h) (R0 h)
def X7.h:Hn:=.q .o2 (.q (.k (.q .o4 (.c (.q .o2 .l) (.q (.reg (.seq [.op,.op,.op,.grd false 4 (RI.ops 4),.op])) (.c (.q .o2 .l) .l))))) (.q .o5 .l))
def X7.v (a:R2)(b:Int)(c:Hp)(d:Sl->Int->Hp->Prop):Prop:=W9.c a c λe f=>If (!e) (d ⟨none,0,0⟩ 5 f) (JnB (λg h=>If g (d ⟨none,0,0⟩ 1 h) (YI.c a b h λi j=>d i 0 j)) λk=>If (b<0) (k true f) (Yt.c a f λl m=>k (decide (b≥l)) m))
theorem X7.o {a b c d}(e:X7.v a b c d):X7.c a b c d:=Wa Tryz.func238 (x:=X7.h) (R0 e)
def ZM.h:Hn:=.q .o3 (.k (.loop [(7,.I)] (.q .o1 (.q (.c .l .l) (.q (.k (.q .o2 .o5)) .o2)))))
def ZM.v (a:Sl)(b:Int)(c:Hp)(d:Hp->Prop):Prop:=XL [(.i .i64)] (λe=>e 0 c) λf (g:Int) h=>If (g<((a.len:Nat):Int)) (Ix a.a a.len g 1 λi=>St1 i (.I b) h λj=>Ar .i64 (g+1) λk=>f k j) (d h)
theorem ZM.o {a b c d}(e:ZM.v a b c d):ZM.c a b c d:=Wa Tryz.func240 (x:=ZM.h) (R0 e)
def Xq.h:Hn:=.q .o1 (.q .o6 .l)
def Xq.v (a:R2)(b c:Int)(d:Hp)(e:Int->Hp->Prop):Prop:=Nw (.cells #[.I 2,.I 3] 3 (0,0)) d λf g=>Xv.c a b c 1 ⟨some f,2,2⟩ g λh i=>e h i
theorem Xq.o {a b c d e}(f:Xq.v a b c d e):Xq.c a b c d e:=Wa Tryz.func254 (x:=Xq.h) (R0 f)
def Yc.h:Hn:=.q .o1 (.q .o5 .l)
def Yc.v (a:Int)(b:Addr)(c:Hp)(d:Bool->Hp->Prop):Prop:=LdS b c λe=>Wm.c e a c λf g=>d (!f) g
theorem Yc.o {a b c d}(e:Yc.v a b c d):Yc.c a b c d:=Wa Tryz.func269 (x:=Yc.h) (R0 e)
def XR.h:Hn:=.q .o1 (.q .o8 (.q (.k (.q .o3 (.c (.q .o2 .l) (.q .o5 (.c (.q .o1 .l) .l))))) (.q .o2 (.q .o1 .l))))
def XR.v (a:R2)(b:Int)(c:Hp)(d:Int->Hp->Prop):Prop:=X7.c a b c λe f g=>If (f != 0) (d f g) (Ix e.a e.len 0 1 λh=>LdI .i64 h g λi=>If (i != 0) (d 5 g) (ZM.c e 3 g λj=>d 0 j))
theorem XR.o {a b c d}(e:XR.v a b c d):XR.c a b c d:=Wa Tryz.func281 (x:=XR.h) (R0 e)
end Go.Proofs
namespace Go.Ar
open Go Go.Vc Go.Proofs
open Go.Bu (YT)
variable {σ:Hp}{F:Rg}{p q:Nat}{st:List Nat}
structure TrH (σ:Hp) (p q:Nat) (st:List Nat):Prop where
 hd:∃cap,st.length<=cap/\Blk σ p [.slice (some ⟨q,0,none⟩) st.length cap]
 row:∃rest,Blk σ q (ints st++rest)
 ne:p≠q
 n1:16<=st.length
 n2:st.length<=1024
 n3:st.length%16=0
theorem TrH.keep {σ':Hp}(h:TrH σ p q st)(e:Ext F σ σ')(hp:¬F p)(hq:¬F q):TrH σ' p q st:=
 ⟨by obtain⟨c,h1,h2⟩:=h.hd;exact⟨c,h1,e.blk h2 hp⟩,by obtain⟨r,h1⟩:=h.row;exact⟨r,e.blk h1 hq⟩,h.ne,h.n1,h.n2,h.n3⟩
theorem TrH.keep0 {σ':Hp}(h:TrH σ p q st)(e:Ext0 σ σ'):TrH σ' p q st:=h.keep e id id
theorem TrH.lt (h:TrH σ p q st):p<σ.size/\q<σ.size:=by
 obtain⟨_,_,h1⟩:=h.hd;obtain⟨_,h2⟩:=h.row;exact⟨h1.lt,h2.lt⟩
theorem TrH.rS (h:TrH σ p q st){K:Sl->Prop}(hK:∀cap,st.length<=cap->K ⟨some ⟨q,0,none⟩,st.length,cap⟩):LdS (Addr.add ⟨p,0,none⟩ 0) σ K:=by
 obtain⟨c,h1,h2⟩:=h.hd;exact h2.rS rfl (hK c h1)
theorem TrH.part (h:TrH σ p q st){s:Sl}{a n:Nat}(ha:s.a=some ⟨q,a,none⟩)(hn:s.len=n)(hl:a+n<=st.length):SlR s 1 (ints ((st.drop a).take n)) σ (· = q):=by
 obtain⟨r,h2⟩:=h.row;have hlen:((st.drop a).take n).length=n:=by simp;omega
 refine h2.slR ha (by rw[Z0,hlen,hn];simp) λj hj=>?_;rw[Z0,hlen]at hj;rw[zd (by rw[Z0];omega)];simp[ints,zg,hj,zu]
theorem Wha {s:Sl}{xs:List Nat}(h:SlR s 1 (ints xs) σ F)(hl:xs.length<=1000000)(v:Nat){R:Int->Hp->Prop}(hR:R ((xs.count v:Nat):Int) σ):ZQ.c s v σ R:=by
 refine ZQ.o ?_;unfold ZQ.v;have hlen:=h.lenN;refine Ks (a:=.i .i64) (bb:=.i .i64) (λ(n t:Int) h'=>∃i:Nat,t=(i:Int)/\i<=xs.length/\n=(((xs.take i).count v:Nat):Int)/\h'=σ) (λ_ t _=>xs.length-t.toNat) ⟨0,rfl,by omega,by simp,rfl⟩ ?_;rintro n t h' ⟨i,rfl,hi,rfl,rfl⟩;refine ifD (λhlt=>?_) λhge=>?_
 ·have hi':i<xs.length:=by omega
  have hx:xs[i]?=some xs[i]:=gGe hi';have hc:(xs.take (i+1)).count v=(xs.take i).count v+if xs[i]=v then 1 else 0:=by
   rw[zr,hx,zDK,zDP,List.count_singleton]
   congr 1
   by_cases h:xs[i]=v<;>simp[h]
  have hle:(xs.take i).count v<=i:=ze zGA (by simp;omega);refine h.ixN hx (iff_ (λhe=>?_) λhe=>?_)
  ·have he':xs[i]=v:=by rw[beqN]at he;simpa using he
   rw[zB he']at hc;exact arN (m:=(xs.take i).count v+1) (by omega) (by omega) (arN (m:=i+1) (by omega) (by omega) ⟨⟨i+1,rfl,by omega,by rw[hc],rfl⟩,by omega⟩)
  ·have he':¬xs[i]=v:=by rw[beqN]at he;simpa using he
   rw[zA he',zt]at hc;exact arN (m:=i+1) (by omega) (by omega) ⟨⟨i+1,rfl,by omega,congrArg _ hc.symm,rfl⟩,by omega⟩
 ·have:i=xs.length:=by omega
  subst this;rw[zAA]at *;exact hR
theorem fill_ok {b o n c:Nat}{cs:List Value}(hb:Blk σ b cs)(hl:o+n<=cs.length)(hn:n<=1000000)(v:Nat){R:Hp->Prop}
 (hR:∀σ',ZY σ σ' b->Blk σ' b (cs.take o++List.replicate n (.int .i64 (v:Int))++cs.drop (o+n))->R σ'):ZM.c ⟨some ⟨b,o,none⟩,n,c⟩ v σ R:=by
 refine ZM.o ?_;unfold ZM.v;refine Zw (a:=.i .i64) (λ(t:Int) h'=>∃i:Nat,t=(i:Int)/\i<=n/\ZY σ h' b/\Blk h' b (cs.take o++List.replicate i (.int .i64 (v:Int))++cs.drop (o+i))) (λt _=>n-t.toNat) ⟨0,rfl,by omega,⟨rfl,λ_ _=>rfl⟩,by simpa using hb⟩ ?_;rintro t h' ⟨i,rfl,hi,ho,hbi⟩;refine ifD (λhlt=>?_) λhge=>?_
 ·simp only at hlt;refine ix (by omega) (by simp only;omega) ?_;rw[add_lit];refine hbi.s0 (by simp;omega) λh2 ho2 hb2=>?_;refine arN (m:=i+1) (by omega) (by omega) ⟨⟨i+1,rfl,by omega,⟨ho2.1.trans ho.1,λk hk=>(ho2.2 k hk).trans (ho.2 k hk)⟩,?_⟩,by omega⟩;have:(cs.take o++List.replicate i (Value.int .i64 (v:Int))++cs.drop (o+i)).set (o+(i:Int).toNat*1) (Value.int .i64 (v:Int))=cs.take o++List.replicate (i+1) (Value.int .i64 (v:Int))++cs.drop (o+(i+1)):=by
   rw[List.set_append_right _ _ (by simp;omega)];have e:o+(i:Int).toNat*1-(cs.take o++List.replicate i (Value.int .i64 (v:Int))).length=0:=by simp;omega
   rw[e,List.drop_eq_getElem_cons (by omega),List.set_cons_zero,zFR];simp[zAC,zBU]
  rw[this]at hb2;exact hb2
 ·simp only at hge;have:i=n:=by omega
  subst this;exact hR h' ho hbi
theorem TrH.fill (h:TrH σ p q st){a n:Nat}{r:List Value}{σ':Hp}{v:Nat}(hrow:Blk σ q (ints st++r))(hl:a+n<=st.length)(ho:ZY σ σ' q)
 (hb:Blk σ' q ((ints st++r).take a++List.replicate n (.int .i64 (v:Int))++(ints st++r).drop (a+n))):TrH σ' p q (setR st a (a+n) v):=by
 obtain⟨c,h1,h2⟩:=h.hd;have hlen:=QH st a (a+n) v;refine⟨⟨c,by rw[hlen];exact h1,?_⟩,⟨r,?_⟩,h.ne,by rw[hlen];exact h.n1,by rw[hlen];exact h.n2,by rw[hlen];exact h.n3⟩
 ·rw[hlen];exact Wr ho h2 h.ne
 ·rw[Wj3 (by omega) hl,VM,VM];have e1:(ints st++r).take a=ints (st.take a):=by
   rw[zBM (by rw[Z0];omega)];simp[ints]
  have e2:(ints st++r).drop (a+n)=ints (st.drop (a+n))++r:=by
   rw[List.drop_append_of_le_length (by rw[Z0];omega)];simp[ints]
  have e3:ints (List.replicate (a+n-a) v)=List.replicate n (.int .i64 (v:Int)):=by
   rw[Nat.add_sub_cancel_left];simp[ints]
  rw[e1,e2]at hb;rw[e3];simpa[zAC]using hb
theorem TrH.fill_ok (h:TrH σ p q st){a n c:Nat}(hl:a+n<=st.length)(v:Nat){R:Hp->Prop}(hR:∀σ',Ext (· = q) σ σ'->TrH σ' p q (setR st a (a+n) v)->R σ') :
 ZM.c ⟨some ⟨q,a,none⟩,n,c⟩ v σ R:=by
 obtain⟨r,hrow⟩:=h.row;have:=h.n2;exact Ar.fill_ok hrow (by simp[Z0];omega) (by omega) v λσ' ho hb=>hR σ' ho.ext (h.fill hrow hl ho hb)
theorem WaY (h:TrH σ p q st){R:Bool->Hp->Prop}(hR:R true σ):W9.c (some ⟨p,0,none⟩) σ R:=by
 refine W9.o ?_;unfold W9.v;refine JnB.intro (ifT rfl (nilP (h.rS λcap _=>?_)));have:=h.n1;rw[zQ (by simp only;omega)];exact hR
theorem Wk5 (h:TrH σ p q st){R:Int->Hp->Prop}(hR:R ((st.length/16:Nat):Int) σ):Yt.c (some ⟨p,0,none⟩) σ R:=by
 refine Yt.o ?_;unfold Yt.v;have:=h.n2;refine nilP (h.rS λcap _=>nz (by decide) ?_);refine arN (m:=st.length/16) ?_ (by omega) hR;rw[YQ (by omega)];simp
theorem WlN (h:TrH σ p q st){k:Nat}(hk:16*k+16<=st.length){R:Sl->Hp->Prop}(hR:∀c,R ⟨some ⟨q,16*k,none⟩,16,c⟩ σ):YI.c (some ⟨p,0,none⟩) (k:Int) σ R:=by
 refine YI.o ?_;unfold YI.v;have:=h.n2;refine nilP (h.rS λcap hc=>?_);refine arN (m:=16*k) (by omega) (by omega) (arN (m:=k+1) (by omega) (by omega) (arN (m:=16*k+16) (by omega) (by omega) ?_));refine slc (by omega) (by simp only;omega) (by simp only;omega) ?_;have e:16*k+16-16*k=16:=by omega
 rw[zA (by simp only;omega),e];simp only[zb,add_lit,zAX,zG];exact hR _
theorem WjA (h:TrH σ p q st)(k:Int){R:Sl->Int->Hp->Prop}(h1:∀(x:Nat) c,k=(x:Int)->16*x+16<=st.length->R ⟨some ⟨q,16*x,none⟩,16,c⟩ 0 σ)(h0:GV st.length k=false->R ⟨none,0,0⟩ 1 σ) :
 X7.c (some ⟨p,0,none⟩) k σ R:=by
 refine X7.o ?_;unfold X7.v;have n3:=h.n3;refine WaY h (ifF rfl (JnB.intro (ifD (λhneg=>ifT rfl (h0 ?_)) λhneg=>Wk5 h ?_)))
 ·simp[GV];omega
 ·refine ifD (λhge=>h0 ?_) λhlt=>?_
  ·simp[GV];omega
  ·obtain⟨x,rfl⟩:=zi (show 0<=k by omega);exact WlN h (by omega) λc=>h1 x c rfl (by omega)
theorem GO {n x:Nat}(h:16*x+16<=n):GV n (x:Int)=true:=by simp[GV];omega
theorem TrH.first (h:TrH σ p q st){x c:Nat}(hx:16*x+16<=st.length){K:Int->Prop}(hK:K ((st.getD (16*x) 0:Nat):Int)) :
 Ix (some ⟨q,16*x,none⟩) 16 0 1 λa=>LdI .i64 a σ K:=by
 have hp:=h.part (s:=⟨some ⟨q,16*x,none⟩,16,c⟩) (n:=16) rfl rfl hx;refine hp.ixN (i:=0) (x:=st.getD (16*x) 0) ?_ hK;simp[zg,zu,zO];rw[gGe (by omega)];simp
theorem TrH.cnt (h:TrH σ p q st){x c v:Nat}(hx:16*x+16<=st.length){R:Int->Hp->Prop}(hR:R ((cntR st (16*x) (16*x+16) v:Nat):Int) σ):ZQ.c ⟨some ⟨q,16*x,none⟩,16,c⟩ v σ R:=by
 refine Wha (h.part (n:=16) rfl rfl hx) (by simp;omega) v ?_;have e:cntR st (16*x) (16*x+16) v=((st.drop (16*x)).take 16).count v:=by simp[cntR]
 rw[e]at hR;exact hR
theorem WjP (h:TrH σ p q st)(k:Int){R:Int->Hp->Prop}(hR:∀σ',Ext (· = q) σ σ'->TrH σ' p q (addT st k)->R (addE st k) σ'):XR.c (some ⟨p,0,none⟩) k σ R:=by
 refine XR.o ?_;unfold XR.v;refine WjA h k (λx c hk hx=>?_) λhk=>?_
 ·subst hk;have hok:=GO hx;refine ifF rfl (h.first (c:=c) hx (iff_ (λhe=>?_) λhe=>?_))
  ·have e1:¬st.getD (16*x) 0=0:=by simpa using he
   have:addE st (x:Int)=5:=by simp only[addE,hok,iTn,zP,zA e1]
   have e2:addT st (x:Int)=st:=by simp[addT,this]
   have:=hR σ (Ext.refl _ _);rw[e2]at this;simpa[*]using this h
  ·have e1:st.getD (16*x) 0=0:=by simpa using he
   have e0:addE st (x:Int)=0:=by simp only[addE,hok,iTn,zP,e1]
   have e2:addT st (x:Int)=setR st (16*x) (16*x+16) 3:=by simp[addT,e0]
   refine h.fill_ok hx 3 λσ' e h'=>?_;have:=hR σ' e;rw[e0,e2]at this;exact this h'
 ·have e0:addE st k=1:=by simp[addE,hk]
  have e2:addT st k=st:=by simp[addT,e0]
  refine ifT rfl ?_;have:=hR σ (Ext.refl _ _);rw[e0,e2]at this;exact this h
theorem WdE {s:Sl}{xs:List Nat}(h:SlR s 1 (ints xs) σ F)(hl:xs.length<=1000000)(v:Nat){R:Int->Hp->Prop}(h1:∀i:Nat,xs[i]?=some v->(∀j:Nat,j<i->xs[j]?≠some v)->R (i:Int) σ)(h0:v∉xs->R (-1) σ) :
 WA.c s (v:Int) σ R:=by
 refine WA.o ?_;unfold WA.v;have hlen:=h.lenN;refine Zw (a:=.i .i64) (λ(t:Int) h'=>∃i:Nat,t=(i:Int)/\i<=xs.length/\h'=σ/\∀j,j<i->xs[j]?≠some v) (λt _=>xs.length-t.toNat) ⟨0,rfl,by omega,rfl,λj hj=>by omega⟩ ?_;rintro t h' ⟨i,rfl,hi,rfl,hno⟩;refine ifD (λhlt=>?_) λhge=>?_
 ·have hi':i<xs.length:=by omega
  have hx:xs[i]?=some xs[i]:=gGe hi';refine h.ixN hx ?_;rw[beqN];refine iff_ (λhe=>?_) λhe=>?_
  ·have:v=xs[i]:=by simpa using he
   exact h1 i (by rw[hx,this]) hno
  ·have he':¬v=xs[i]:=by simpa using he
   refine arN (m:=i+1) (by omega) (by omega) ⟨⟨i+1,rfl,by omega,rfl,λj hj=>?_⟩,by omega⟩;by_cases e:j=i
   ·subst e;rw[hx];intro e2;cases e2;exact he' rfl
   ·exact hno j (by omega)
 ·refine h0 λhm=>?_;obtain⟨j,hj⟩:=zL hm;have:=(gSi.1 hj).1;exact hno j (by omega) hj
theorem WcA {s:Sl}{xs:List Nat}(h:SlR s 1 (ints xs) σ F)(hl:xs.length<=1000000)(v:Nat){R:Bool->Hp->Prop}(hR:R (xs.contains v) σ):Wm.c s (v:Int) σ R:=by
 refine Wm.o ?_;unfold Wm.v;refine WdE h hl v (λi hi _=>?_) λhn=>?_
 ·have:xs.contains v=true:=by simpa using zE hi
  rw[this]at hR;rw[zQ (by omega)];exact hR
 ·have:xs.contains v=false:=by simpa using hn
  rw[this]at hR;exact hR
theorem Wbs {s:Sl}{xs:List Int}(h:SlR s 1 (xs.map (Value.int .i64)) σ F)(hl:xs.length<=1000000000)(v:Int){R:Bool->Hp->Prop}(hR:R (xs.contains v) σ):Wm.c s v σ R:=by
 refine Wm.o ?_;unfold Wm.v;refine WA.o ?_;unfold WA.v;have hlen:s.len=xs.length:=by have:=h.1;simp at this;omega
 refine Zw (a:=.i .i64) (λ(t:Int) h'=>∃i:Nat,t=(i:Int)/\i<=xs.length/\h'=σ/\∀j,j<i->xs[j]?≠some v) (λt _=>xs.length-t.toNat) ⟨0,rfl,by omega,rfl,λj hj=>by omega⟩ ?_;rintro t h' ⟨i,rfl,hi,rfl,hno⟩;refine ifD (λhlt=>?_) λhge=>?_
 ·have hi':i<xs.length:=by omega
  have hx:xs[i]?=some xs[i]:=gGe hi';refine h.ixI hx (iff_ (λhe=>?_) λhe=>?_)
  ·have e:v=xs[i]:=by simpa using he
   have:xs.contains v=true:=by rw[e];simp
   rw[this]at hR;show R (decide ((i:Int)≥0)) _;rw[zQ (by omega)];exact hR
  ·have he':¬v=xs[i]:=by simpa using he
   refine arN (m:=i+1) (by omega) (by omega) ⟨⟨i+1,rfl,by omega,rfl,λj hj=>?_⟩,by omega⟩;by_cases e:j=i
   ·subst e;rw[hx];intro e2;cases e2;exact he' rfl
   ·exact hno j (by omega)
 ·have:xs.contains v=false:=by
   simp only[zCT,decide_eq_false_iff_not];intro hm;obtain⟨j,hj⟩:=zL hm;have:=(gSi.1 hj).1;exact hno j (by omega) hj
  rw[this]at hR;exact hR
def Wlv (f:Fv)(p:Nat->Bool)(σ:Hp):Prop:=∀(x:Nat) (σ':Hp) (R:Bool->Hp->Prop),Ext0 σ σ'->(∀σ'',Ext0 σ' σ''->R (p x) σ'')->VC Tryz.prog f [.int .i64 (x:Int)] [.one .b] σ' R
theorem HB {s:Sl}{xs:List Nat}(h:SlR s 1 (ints xs) σ F)(hl:xs.length<=1000000){f:Fv}{pr:Nat->Bool}(hf:Wlv f pr σ){R:Bool->Hp->Prop}(hR:∀σ',Ext0 σ σ'->R (xs.any pr) σ') :
 Ws.c s f σ R:=by
 refine Ws.o ?_;unfold Ws.v;refine WK.o ?_;unfold WK.v;have hlen:=h.lenN;refine Zw (a:=.i .i64) (λ(t:Int) h'=>∃i:Nat,t=(i:Int)/\i<=xs.length/\Ext0 σ h'/\∀j x,j<i->xs[j]?=some x->pr x=false) (λt _=>xs.length-t.toNat) ⟨0,rfl,by omega,Ext.refl _ _,λj x hj=>by omega⟩ ?_;rintro t h' ⟨i,rfl,hi,e,hno⟩;refine ifD (λhlt=>?_) λhge=>?_
 ·have hi':i<xs.length:=by omega
  have hx:xs[i]?=some xs[i]:=gGe hi';refine((SlR.loc _ _ _).keep0 h e).ixN hx (hf _ _ _ e λh2 e2=>?_);cases hp:pr xs[i]
  ·refine ifF rfl (arN (m:=i+1) (by omega) (by omega) ⟨⟨i+1,rfl,by omega,e.trans e2,λj x hj hx'=>?_⟩,by omega⟩);by_cases e3:j=i
   ·subst e3;rw[hx]at hx';cases hx';exact hp
   ·exact hno j x (by omega) hx'
  ·refine ifT rfl ?_;have:xs.any pr=true:=zl.2 ⟨_,zj hi',hp⟩;show R (decide ((i:Int)≥0)) _;rw[zQ (by omega),←this];exact hR _ (e.trans e2)
 ·have:xs.any pr=false:=by
   rw[zAP];intro x hx;obtain⟨j,hj⟩:=zL hx;have:=(gSi.1 hj).1;simp[hno j x (by omega) hj]
  show R (decide ((-1:Int)≥0)) _;rw[show decide ((-1:Int)≥0)=false from rfl,←this];exact hR _ e
theorem WhC {c:Nat}{s:Sl}{fr:List Nat}{σ0:Hp}(hb:Blk σ0 c [.slice s.a s.len s.cap])(hs:SlR s 1 (ints fr) σ0 F)(hl:fr.length<=1000):Wlv ⟨269,#[],#[.pointer (some ⟨c,0,none⟩)]⟩ (λx=>!fr.contains x) σ0:=by
 intro x σ' R e hR;refine WaN (all := #[.int .i64 (x:Int),.pointer (some ⟨c,0,none⟩)]) (by kernel_rfl) (by simp) ?_;refine Yc.o ?_;unfold Yc.v;refine(e.blk hb id).rS0 rfl ?_;exact WcA ((SlR.loc _ _ _).keep0 hs e) (by omega) x (hR _ (Ext.refl _ _))
theorem WgO (h:TrH σ p q st)(a m:Int)(v:Nat){s:Sl}{fr:List Nat}(hs:SlR s 1 (ints fr) σ F)(hl:fr.length<=1000){R:Int->Hp->Prop}(hR:∀σ',Ext (· = q) σ σ'->TrH σ' p q (Vj st a m v fr)->R (HA st a m fr) σ') :
 Xv.c (some ⟨p,0,none⟩) a m v s σ R:=by
 refine Xv.o ?_;unfold Xv.v;have n2:=h.n2;have hq:=h.lt.2;refine nw (cs:=[.slice s.a s.len s.cap]) λv1 hz e0 hb=>?_;have h1:=h.keep0 e0;have bad:¬(0<=a/\1<=m/\m<=st.length-a)->R 1 v1:=λhn=>by
  have hok:YT st.length a m=false:=by simp only[YT,←zDN];exact zT hn
  have e1:HA st a m fr=1:=by simp[HA,hok]
  have e2:Vj st a m v fr=st:=by simp[Vj,e1]
  have:=hR v1 e0.to;rw[e1,e2]at this;exact this h1
 refine WaY h1 (ifF rfl (JnB.intro ?_));refine ifD (λc1=>JnB.intro (ifT rfl (JnB.intro (ifT rfl (ifT rfl (bad (by omega))))))) λc1=>?_;refine JnB.intro (ifD (λc2=>JnB.intro (ifT rfl (ifT rfl (bad (by omega))))) λc2=>?_);refine nilP (h1.rS λcap hc=>JnB.intro (ifD (λc3=>ifT rfl (bad (by simp only at *;omega))) λc3=>?_));simp only at c3;refine nilP (h1.rS λcap hc=>ar (by simp only;omega) (by simp only;omega) (ifD (λc4=>bad (by simp only at *;omega)) λc4=>?_));simp only at c4;obtain⟨x,rfl⟩:=zi (show 0<=a by omega);obtain⟨y,rfl⟩:=zi (show 0<=m by omega);have hxy:x+y<=st.length:=by omega
 have hok:YT st.length (x:Int) (y:Int)=true:=by simp only[YT,zF,zN];omega
 refine nilP (h1.rS λcap hc=>arN (m:=x+y) (by omega) (by omega) (slc (by omega) (by simp only;omega) (by simp only;omega) ?_));rw[zA (by simp only;omega)];simp only[zb,add_lit,zAX,zG];have ey:x+y-x=y:=by omega
 rw[ey];have hp:=h1.part (s:=⟨some ⟨q,x,none⟩,y,cap-x⟩) (n:=y) rfl rfl hxy;refine HB hp (by simp;omega) (WhC (s:=s) hb ((SlR.loc _ _ _).keep0 hs e0) hl) λv2 e2=>?_;have h2:=h1.keep0 e2;have hall:((st.drop x).take y).any (λz=>!fr.contains z) = !Wer st x y fr:=by
  rw[Wer,List.all_eq_not_any_not,Bool.not_not]
 rw[hall];cases hA:Wer st x y fr
 ·have e1:HA st (x:Int) (y:Int) fr=5:=by simp[HA,hok,hA]
  have e3:Vj st (x:Int) (y:Int) v fr=st:=by simp[Vj,e1]
  have:=hR v2 (e0.to.trans e2.to);rw[e1,e3]at this;exact ifT rfl (this h2)
 ·have e1:HA st (x:Int) (y:Int) fr=0:=by simp[HA,hok,hA]
  have e3:Vj st (x:Int) (y:Int) v fr=setR st x (x+y) v:=by simp[Vj,e1]
  refine ifF rfl (h2.fill_ok hxy v λv3 e4 h3=>?_);have:=hR v3 (e0.to.trans (e2.to.trans e4));rw[e1,e3]at this;exact this h3
theorem WaE {h:Hp}{b:Nat}{xs:List Nat}{n c:Nat}(hb:Blk h b (ints xs))(hn:n=xs.length):SlR ⟨some ⟨b,0,none⟩,n,c⟩ 1 (ints xs) h (· = b):=
 hb.slR (o:=0) rfl (by rw[Z0];simp[hn]) λj _=>by rw[zG]
theorem Wlh (h:TrH σ p q st)(a m:Int){R:Int->Hp->Prop}(hR:∀σ',Ext (· = q) σ σ'->TrH σ' p q (Vj st a m 1 [2,3])->R (HA st a m [2,3]) σ'):Xq.c (some ⟨p,0,none⟩) a m σ R:=by
 refine Xq.o ?_;unfold Xq.v;refine nw (cs:=ints [2,3]) λv hz e hb=>?_;exact WgO (h.keep0 e) a m 1 (WaE hb rfl) (by simp) λσ' e' h'=>hR σ' (e.to.trans e') h'
theorem Wio (h:TrH σ p q st)(a m:Int){R:Int->Hp->Prop}(hR:∀σ',Ext (· = q) σ σ'->TrH σ' p q (Vj st a m 2 [1])->R (HA st a m [1]) σ'):Xc.c (some ⟨p,0,none⟩) a m σ R:=by
 refine Xc.o ?_;unfold Xc.v;refine nw (cs:=ints [1]) λv hz e hb=>?_;exact WgO (h.keep0 e) a m 2 (WaE hb rfl) (by simp) λσ' e' h'=>hR σ' (e.to.trans e') h'
def stI (st:List Nat)(x:Int):Int:=if 0<=x/\x<st.length then((st.getD x.toNat 0:Nat):Int)else -1
theorem WgA (h:TrH σ p q st)(x:Int){R:Int->Hp->Prop}(hR:R (stI st x) σ):XG.c (some ⟨p,0,none⟩) x σ R:=by
 refine XG.o ?_;unfold XG.v;have n2:=h.n2;unfold stI at hR;refine WaY h (JnB.intro (ifF rfl (JnB.intro (ifD (λc1=>ifT rfl ?_) λc1=>nilP (h.rS λcap hc=>ifD (λc2=>?_) λc2=>?_)))))
 ·rw[zA (by omega)]at hR;exact hR
 ·simp only at c2;rw[zA (by omega)]at hR;exact hR
 ·simp only at c2;rw[zB (by omega)]at hR;obtain⟨y,rfl⟩:=zi (show 0<=x by omega);refine nilP (h.rS λcap hc=>?_);have hp:=h.part (s:=⟨some ⟨q,0,none⟩,st.length,cap⟩) (a:=0) (n:=st.length) rfl rfl (by omega);rw[List.drop_zero,zAA]at hp;have hy:y<st.length:=by omega
  refine hp.ixN (gGe hy) ?_;simpa[zO,gGe hy]using hR
theorem V6 {s:Sl}{vs:List Value}(h:SlR s 1 vs σ F)(h1:∀v∈vs,one1 v=true)(hl:s.len<=1000000){R:Sl->Hp->Prop}
 (hR:∀s' σ',s'.len=s.len->Ext0 σ σ'->RowR s' 1 vs σ' (λb=>σ.size<=b)->R s' σ'):WB.c s σ R:=by
 refine WB.o ?_;unfold WB.v;exact Wan h (by decide) rfl h1 (by decide) hl hR
theorem WjK {n:Nat}(h1:16<=n)(h2:n<=1024)(h3:n%16=0){R:Option Addr->Int->Hp->Prop}(hR:∀σ' p q,Ext0 σ σ'->σ.size<=p->σ.size<=q->TrH σ' p q (List.replicate n 0)->R (some ⟨p,0,none⟩) 0 σ'):QA.c (n:Int) σ R:=by
 refine QA.o ?_;unfold QA.v;refine JnB.intro (ifDF (by omega) (JnB.intro (ifDF (by omega) (nz (by decide) ?_))));rw[Qw (by omega)];have:(((n:Int)%16) != 0)=false:=by
  have:((n:Int)%16)=0:=by omega
  rw[this];rfl
 rw[this];refine ifF rfl (mk (by omega) (by omega) λv hz e hb=>nw (cs:=[.slice (some ⟨σ.size,0,none⟩) n n]) λv2 hz2 e2 hb2=>?_);have hf:(List.replicate n [Value.int .i64 0]).flatten=ints (List.replicate n 0):=by
  have:[Value.int .i64 0]=ints [0]:=rfl;rw[this];clear hb hR
  induction n with
  | zero=>rfl
  | succ n ih=>simp[zEI,ints]
 rw[hf]at hb;refine hR _ _ _ (e.trans e2) (by omega) (zD _) ⟨⟨n,by simp,by simpa using hb2⟩,⟨[],by simpa using e2.blk hb id⟩,by omega,by simpa using h1,by simpa using h2,by simpa using h3⟩
end Go.Ar
namespace Go.Proofs
open Go.Vc
set_option maxRecDepth 100000
def Y6.h:Hn:=.q .o1 (.q (.q .o3 (.c (.q .o2 .l) .l)) (.q (.reg (.tail 10 (RI.ops 10) [.op])) .l))
def Y6.v (a:R2)(b:Hp)(c:Int->Int->Hp->Prop):Prop:=Nw (.cells #[.I 0,.I 0] 92 (0,0)) b λd e=>X2.c a e λf g=>If (!f) (St1 (d.add 0) (.I 0) g λh=>St1 (d.add 1) (.I 0) h λi=>LdI .i64 (d.add 0) i λj=>LdI .i64 (d.add 1) i λk=>c j k i) (NilP a λl=>LdI .i64 (l.add 0) g λm=>NilP a λn=>LdI .i64 ((n.add 1).add 1) g λo=>St1 (d.add 0) (.I m) g λp=>St1 (d.add 1) (.I o) p λq=>LdI .i64 (d.add 0) q λr=>LdI .i64 (d.add 1) q λs=>c r s q)
theorem Y6.o {a b c}(d:Y6.v a b c):Y6.c a b c:=Wa Tryz.func138 (x:=Y6.h) (R0 d)
def Xx.h:Hn:=.q .o1 (.q (.q .o3 (.c (.q .o1 .l) .l)) (.q .o6 .l))
def Xx.v (a:R2)(b:Hp)(c:Int->Hp->Prop):Prop:=X2.c a b λd e=>If (!d) (c 0 e) (NilP a λf=>LdS (f.add 4) e λg=>c ((g.len:Nat):Int) e)
theorem Xx.o {a b c}(d:Xx.v a b c):Xx.c a b c:=Wa Tryz.func141 (x:=Xx.h) (R0 d)
def XY.h:Hn:=.q .o2 (.q (.q .o3 (.c (.q .o2 .l) .l)) (.q .o5 (.q (.q (.reg (.heldJ false [] [(32,.one .b)] (.take 0 (.take 1 (.all [(2,.take 3 (.take 4 (.split 18 (.take 5 (.take 6 (.take 7 (.take 8 (.take 9 (.take 10 (.take 11 (.take 12 (.take 13 (.take 14 (.take 15 (.take 16 (.take 17 (.take 18 (.done))))))))))))))) (.take 5 (.take 6 (.take 7 (.take 8 (.take 11 (.take 12 (.take 13 (.take 14 (.all [(9,.take 10 (.all [(15,.take 16 (.take 17 (.take 18 (.done))))])),(15,.all [(9,.take 10 (.take 16 (.take 17 (.take 18 (.done)))))])]))))))))))))]))))) (.c (.q .o2 .l) .l)) (.q .o9 .l))))
def XY.v (a:R2)(b:Int)(c:Hp)(d:Int->Int->Hp->Prop):Prop:=X2.c a c λe f=>If (!e) (d 0 5 f) (Ya.c a 0 f λg h=>Ar .i64 (b-g) λi=>Jn [.b] (λ(j:Bool) k=>If j (d 0 8 k) (NilP a λl=>LdI .i64 ((l.add 1).add 0) k λm=>Nz m<|Ar .i64 (i.tdiv m) λn=>d n 0 k)) λo=>Ya.c a 0 h λp q=>If (b<p) (o true q) (NilP a λr=>NilP a λs=>(LdS (r.add 4) q λt=>LdI .i64 ((s.add 1).add 0) q λu=>Ar .i64 (((t.len:Nat):Int)*u) λv=>o (decide (i≥v)) q) ∧ (LdI .i64 ((s.add 1).add 0) q λw=>LdS (r.add 4) q λx=>Ar .i64 (((x.len:Nat):Int)*w) λy=>o (decide (i≥y)) q)))
theorem XY.o {a b c d}(e:XY.v a b c d):XY.c a b c d:=Wa Tryz.func146 (x:=XY.h) (R0 e)
def X2.h:Hn:=.q .o1 (.q (.reg (.seq [.op,.op,.op,.grd true 6 (RI.ops 6),.op])) .l)
def X2.v (a:R2)(b:Hp)(c:Bool->Hp->Prop):Prop:=JnB (λd e=>c d e) λf=>If (!a.isNone) (NilP a λg=>LdS (g.add 4) b λh=>f (decide (((h.len:Nat):Int)>0)) b) (f false b)
theorem X2.o {a b c}(d:X2.v a b c):X2.c a b c:=Wa Tryz.func200 (x:=X2.h) (R0 d)
def Ya.h:Hn:=.q .o1 (.q (.oq 14) .l)
def Ya.v (a:R2)(b:Int)(c:Hp)(d:Int->Hp->Prop):Prop:=NilP a λe=>LdI .i64 (e.add 0) c λf=>Ar .i64 (f*256) λg=>NilP a λh=>LdI .i64 ((h.add 1).add 0) c λi=>Ar .i64 (b*i) λj=>Ar .i64 (g+j) λk=>d k c
theorem Ya.o {a b c d}(e:Ya.v a b c d):Ya.c a b c d:=Wa Tryz.func202 (x:=Ya.h) (R0 e)
def Qz.h:Hn:=.q .o3 (.q .o7 (.q (.q (.reg (.seq [.op,.op,.op,.grd false 2 [.op,.op],.op,.grd false 5 (RI.ops 5)])) (.c (.q .o2 .l) .l)) (.q (.reg (.held true [] (.take 0 (.take 1 (.take 2 (.all [(3,.take 4 (.all [(5,.take 6 (.take 7 (.done)))]))])))))) .l)))
def Qz.v (a b c d:Int)(e:Hp)(f:Option Addr->Int->Hp->Prop):Prop:=Nw (.cells #[.I b,.I c,.I d] 31 (0,0)) e λg h=>LdI .i64 (g.add 0) h λi=>LdI .i64 (g.add 1) h λj=>LdI .i64 (g.add 2) h λk=>YB.c i j k h λl m n=>JnB (λo p=>JnB (λq r=>If q (f none 1 r) (Held r λs=>LdH s (.i .i64) (g.add 0) λ(t:Int)=>LdH s (.i .i64) (g.add 1) λ(u:Int)=>LdH s (.i .i64) (g.add 2) λ(v:Int)=>Mk l l 8 3 [.I 0] r λw x=>And (s x) <| Nw (.cells #[.I a,.I t,.I u,.I v,.slice w.a w.len w.cap,.I 0] 296 (0,0)) x λy z=>And (s z) <| f (some y) 0 z)) λaa=>If o (aa true p) (LdI .i64 (g.add 1) p λab=>Ar .i64 (1024-ab) λac=>aa (decide (a>ac)) p)) λad=>If (m != 0) (ad true n) (ad (decide (a<0)) n)
theorem Qz.o {a b c d e f}(g:Qz.v a b c d e f):Qz.c a b c d e f:=Wa Tryz.func256 (x:=Qz.h) (R0 g)
def Y4.h:Hn:=.q .o1 (.q .o8 (.q (.k (.q .o3 (.c (.q .o2 .l) (.q .o9 (.c (.q .o1 .l) .l))))) (.q .o4 (.q .o1 .l))))
def Y4.v (a:R2)(b:Int)(c:Hp)(d:Int->Hp->Prop):Prop:=XW.c a b c λe f g=>If (f != 0) (d f g) (NilP a λh=>LdS (h.add 4) g λi=>Ix i.a i.len e 1 λj=>LdI .i64 j g λk=>If (k==0) (d 9 g) (Nw (.cells #[.I e] 3 (0,0)) g λl m=>YL.c a 0 ⟨some l,1,1⟩ m λn=>d 0 n))
theorem Y4.o {a b c d}(e:Y4.v a b c d):Y4.c a b c d:=Wa Tryz.func275 (x:=Y4.h) (R0 e)
def Y1.h:Hn:=.q .o2 (.q (.q .o3 (.c (.q .o2 .l) .l)) (.q .o6 (.q (.q .o2 (.c (.q .o2 .l) .l)) (.q .o4 (.q .o5 .l)))))
def Y1.v (a:R2)(b:Hp)(c:Int->Int->Hp->Prop):Prop:=X2.c a b λd e=>If (!d) (c 0 5 e) (NilP a λf=>LdS (f.add 4) e λg=>WA.c g 0 e λh i=>If (h<0) (c 0 6 i) (Nw (.cells #[.I h] 3 (0,0)) i λj k=>YL.c a 1 ⟨some j,1,1⟩ k λl=>Ya.c a h l λm n=>c m 0 n))
theorem Y1.o {a b c}(d:Y1.v a b c):Y1.c a b c:=Wa Tryz.func277 (x:=Y1.h) (R0 d)
def X6.h:Hn:=.q .o2 (.q .o8 (.q (.q .o2 (.c (.q .o3 .l) .l)) (.q .o10 .l)))
def X6.v (a:R2)(b:Int)(c:Hp)(d:Bool->Int->Hp->Prop):Prop:=XW.c a b c λe f g=>If (f != 0) (d false f g) (NilP a λh=>LdS (h.add 4) g λi=>Ix i.a i.len e 1 λj=>LdI .i64 j g λk=>d (k==1) 0 g)
theorem X6.o {a b c d}(e:X6.v a b c d):X6.c a b c d:=Wa Tryz.func285 (x:=X6.h) (R0 e)
def XW.h:Hn:=.q .o2 (.q .o8 (.q (.q (.reg (.seq [.op,.op,.op,.grd true 5 (RI.ops 5)])) (.c (.q .o2 .l) .l)) (.q .o4 .l)))
def XW.v (a:R2)(b:Int)(c:Hp)(d:Int->Int->Hp->Prop):Prop:=XY.c a b c λe f g=>JnB (λh i=>If h (d 0 8 i) (d e f i)) λj=>If (f==0) (Ya.c a e g λk l=>j (k != b) l) (j false g)
theorem XW.o {a b c d}(e:XW.v a b c d):XW.c a b c d:=Wa Tryz.func297 (x:=XW.h) (R0 e)
def YL.h:Hn:=.q .o3 (.k (.loop [(10,.I)] (.q .o1 (.q (.c .l .l) (.q (.k (.q .o3 (.q (.reg (.tail 16 (RI.ops 16) [.op])) .o8))) .o2)))))
def YL.v (a:R2)(b:Int)(c:Sl)(d:Hp)(e:Hp->Prop):Prop:=XL [(.i .i64)] (λf=>f 0 d) λg (h:Int) i=>If (h<((c.len:Nat):Int)) (Ix c.a c.len h 1 λj=>LdI .i64 j i λk=>NilP a λl=>LdI .i64 (l.add 5) i λm=>NilP a λn=>LdS (n.add 4) i λo=>Ix o.a o.len k 1 λp=>LdI .i64 p i λq=>Ar .i64 (b-q) λr=>Ar .i64 (m+r) λs=>NilP a λt=>St1 (t.add 5) (.I s) i λu=>NilP a λv=>LdS (v.add 4) u λw=>Ix w.a w.len k 1 λx=>St1 x (.I b) u λy=>Ar .i64 (h+1) λz=>g z y) (e i)
theorem YL.o {a b c d e}(f:YL.v a b c d e):YL.c a b c d e:=Wa Tryz.func298 (x:=YL.h) (R0 f)
end Go.Proofs