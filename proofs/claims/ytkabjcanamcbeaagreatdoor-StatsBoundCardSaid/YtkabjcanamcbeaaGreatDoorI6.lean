/- Texts joined. -/
import Derived.Shelf.SlSortCmp.NoneTotal
import Derived.Ground.SlsfProg
import Derived.Test.YtkabjcanamcbeaaGreatDoorProg
import Derived.Test.YtkabjcanamcbeaaGreatDoorI5
set_option linter.unusedVariables false
set_option linter.unusedSimpArgs false
namespace Go.Ar
open Go.Bu (YT ZU YR Gw Q6 give take Qq QD Bounded)
def gf (st:List Nat)(p:Nat):Nat:=st.getD p 0
def AR.f (A:AR)(p:Nat):Nat:=gf A.st p
def inR (rs:List (Nat×Nat))(p:Nat):Prop:=∃r∈rs,r.1<=p/\p<r.1+r.2
theorem WlK {st:List Nat}{p:Nat}(h:gf st p≠0):p<st.length:=by
 apply Classical.byContradiction;intro hn;exact h (by unfold gf;rw[zO,zV (by omega)];rfl)
theorem GQ {st:List Nat}{a b v p:Nat}(hb:b<=st.length):gf (setR st a b v) p=if a<=p/\p<b then v else gf st p:=by
 unfold gf;rw[zO,zO,VW];by_cases hp:p<st.length
 ·rw[gGe hp];simp only[zb,zBY]
 ·rw[zV (by omega),zA (by omega)];rfl
theorem Vq {n a m:Nat}:YT n (a:Int) (m:Int)=true↔1<=m/\a+m<=n:=by
 simp only[YT,zF,zN];omega
theorem Wgs {st:List Nat}{a m:Nat}{fr:List Nat}(hl:a+m<=st.length):Wer st a m fr=true↔∀p,a<=p->p<a+m->gf st p∈fr:=by
 unfold Wer;rw[zw];constructor
 ·intro h p h1 h2;have hp:p<st.length:=by omega
  have:st[p]∈(st.drop a).take m:=by
   refine zE (i:=p-a) ?_;rw[zg,zB (by omega),zu,show a+(p-a)=p by omega,gGe hp]
  have:=h _ this;unfold gf;rw[zO,gGe hp];simpa using this
 ·intro h x hx;obtain⟨i,hi⟩:=zL hx;rw[zg]at hi;split at hi
  ·rename_i hlt;rw[zu]at hi;have:=h (a+i) (by omega) (by omega);unfold gf at this;rw[zO,hi]at this;simpa using this
  ·cases hi
theorem Wdq {st:List Nat}{a m v:Nat}{fr:List Nat}(h1:1<=m)(hl:a+m<=st.length)(h:∀p,a<=p->p<a+m->gf st p∈fr):Vj st (a:Int) (m:Int) v fr=setR st a (a+m) v:=by
 unfold Vj HA;rw[zB (Vq.2 ⟨h1,hl⟩),iTn,iTn,(Wgs hl).2 h];rfl
structure PG (A:AR):Prop where
 len:A.st.length=A.n
 n1:32<=A.n
 n2:A.n<=1024
 n16:A.n%16=0
 le:∀p,A.f p<=3
 us:∀p,A.f p=1↔A.ow p≠0
 fr:∀p,A.S p=true↔2<=A.f p
 hp:∀p,A.f p=0↔A.f (p/16*16)=0
theorem PG.lt {A:AR}(h:PG A){p:Nat}(hp:A.f p≠0):p<A.n:=h.len▸WlK hp
theorem PG.bnd {A:AR}(h:PG A):Bounded A.S A.n:=λp hp=>h.lt (by have:=(h.fr p).1 hp;omega)
theorem PG.hp2 {A:AR}(h:PG A){p q:Nat}(e:p/16=q/16):A.f p=0↔A.f q=0:=by rw[h.hp p,h.hp q,e]
theorem PG.same {A B:AR}(h:PG A)(e1:B.n=A.n)(e2:B.st=A.st)(e3:B.S=A.S)(e4:B.ow=A.ow):PG B:=by
 have ef:∀p,B.f p=A.f p:=λp=>by unfold AR.f;rw[e2]
 exact⟨by rw[e2,e1];exact h.len,by rw[e1];exact h.n1,by rw[e1];exact h.n2,by rw[e1];exact h.n16,λp=>by rw[ef];exact h.le p,λp=>by rw[ef,e4];exact h.us p,λp=>by rw[ef,e3];exact h.fr p,λp=>by rw[ef,ef];exact h.hp p⟩
theorem Wf1 {ow:Nat->Nat}{a m no:Nat}(h1:1<=m)(h2:a+m<=1024)(p:Nat):setO ow a m no p=if a<=p/\p<a+m then no else ow p:=by
 unfold setO;rw[zB (Vq.2 ⟨h1,h2⟩)]
theorem Wdm {n:Nat}{S:Nat->Bool}{a m:Nat}(h1:1<=m)(h2:a+m<=n)(h:∀p,a<=p->p<a+m->S p=false):ZU n S (a:Int) (m:Int)=give S a (a+m):=by
 unfold ZU;rw[Vq.2 ⟨h1,h2⟩,iTn,iTn,Q6.2 h];rfl
structure Out (A B:AR) (a b:Nat):Prop where
 n:B.n=A.n
 len:B.st.length=A.st.length
 f:∀p,¬(a<=p/\p<b)->B.f p=A.f p
 ow:∀p,¬(a<=p/\p<b)->B.ow p=A.ow p
 S:∀p,¬(a<=p/\p<b)->B.S p=A.S p
theorem Out.pg {A B:AR}{a b v:Nat}(o:Out A B a b)(h:PG A)(hv:v<=3)(hf:∀p,a<=p->p<b->B.f p=v)(hw:∀p,a<=p->p<b->(v=1↔B.ow p≠0))(hS:∀p,a<=p->p<b->(B.S p=true↔2<=v))
 (hz:∀p,B.f p=0↔B.f (p/16*16)=0):PG B:=by
 refine⟨by rw[o.len,o.n];exact h.len,by rw[o.n];exact h.n1,by rw[o.n];exact h.n2,by rw[o.n];exact h.n16,λp=>?_,λp=>?_,λp=>?_,hz⟩
 ·by_cases hp:a<=p/\p<b
  ·rw[hf p hp.1 hp.2];exact hv
  ·rw[o.f p hp];exact h.le p
 ·by_cases hp:a<=p/\p<b
  ·rw[hf p hp.1 hp.2];exact hw p hp.1 hp.2
  ·rw[o.f p hp,o.ow p hp];exact h.us p
 ·by_cases hp:a<=p/\p<b
  ·rw[hf p hp.1 hp.2];exact hS p hp.1 hp.2
  ·rw[o.f p hp,o.S p hp];exact h.fr p
theorem Out.zero {A B:AR}{a b v:Nat}(o:Out A B a b)(h:PG A)(hf:∀p,a<=p->p<b->B.f p=v)(hv:v≠0)(hA:∀p,a<=p->p<b->A.f p≠0):∀p,B.f p=0↔A.f p=0:=by
 intro p;by_cases hp:a<=p/\p<b
 ·rw[hf p hp.1 hp.2];exact⟨λe=>(hv e).elim,λe=>(hA p hp.1 hp.2 e).elim⟩
 ·rw[o.f p hp]
theorem WkD {A B:AR}(h:PG A)(e:∀p,B.f p=0↔A.f p=0):∀p,B.f p=0↔B.f (p/16*16)=0:=λp=>by rw[e,e];exact h.hp p
theorem Wdb {A:AR}(h:PG A){a m:Nat}(h1:1<=m)(hu:∀p,a<=p->p<a+m->A.f p=1):Out A (KO A (a,m)) a (a+m)/\(∀p,a<=p->p<a+m->(KO A (a,m)).f p=2/\(KO A (a,m)).ow p=0)/\PG (KO A (a,m))/\∀p,(KO A (a,m)).f p=0↔A.f p=0:=by
 have hl:a+m<=A.n:=by have:=h.lt (p:=a+m-1) (by rw[hu _ (by omega) (by omega)];omega);omega
 have hn:=h.n2;have e1:(KO A (a,m)).st=setR A.st a (a+m) 2:=Wdq h1 (by rw[h.len];exact hl) λp p1 p2=>by
  have:=hu p p1 p2;unfold AR.f at this;rw[this];simp
 have e2:(KO A (a,m)).S=give A.S a (a+m):=Wdm h1 hl λp p1 p2=>by
  apply zAQ.2;intro hS;have:=(h.fr p).1 hS;have:=hu p p1 p2;omega
 have e3:∀p,(KO A (a,m)).ow p=if a<=p/\p<a+m then 0 else A.ow p:=λp=>Wf1 h1 (by omega) p
 have ef:∀p,(KO A (a,m)).f p=if a<=p/\p<a+m then 2 else A.f p:=λp=>by unfold AR.f;rw[e1,GQ (by rw[h.len];exact hl)]
 have o:Out A (KO A (a,m)) a (a+m):=⟨rfl,by rw[e1,QH],λp hp=>by rw[ef,zA hp],λp hp=>by rw[e3,zA hp],λp hp=>by
  rw[e2];unfold give;have:(decide (a<=p)&&decide (p<a+m))=false:=by simp;omega
  rw[this,Bool.or_false]⟩
 have hf:∀p,a<=p->p<a+m->(KO A (a,m)).f p=2:=λp p1 p2=>by rw[ef,zB ⟨p1,p2⟩]
 have hw:∀p,a<=p->p<a+m->(KO A (a,m)).ow p=0:=λp p1 p2=>by rw[e3,zB ⟨p1,p2⟩]
 have hz:=o.zero h hf (by omega) λp p1 p2=>by rw[hu p p1 p2];omega
 refine⟨o,λp p1 p2=>⟨hf p p1 p2,hw p p1 p2⟩,o.pg h (by omega) hf (λp p1 p2=>by rw[hw p p1 p2];simp) (λp p1 p2=>?_) (WkD h hz),hz⟩;rw[e2,Qq];exact⟨λ_=>zD _,λ_=>.inr ⟨p1,p2⟩⟩
structure Backd (A B:AR) (rs:List (Nat×Nat)):Prop where
 pg:PG B
 n:B.n=A.n
 tb:B.tb=A.tb
 room:B.room=A.room
 tra:B.tra=A.tra
 cen:B.cen=A.cen
 runs:B.runs=A.runs
 i:∀p,inR rs p->B.f p=2/\B.ow p=0
 o:∀p,¬inR rs p->B.f p=A.f p/\B.ow p=A.ow p
 z:∀p,B.f p=0↔A.f p=0
theorem Wdd:∀(rs:List (Nat×Nat)) {A:AR},PG A->(∀r∈rs,1<=r.2)->(∀r∈rs,∀p,r.1<=p->p<r.1+r.2->A.f p=1)->rs.Pairwise (λa b=>a.1+a.2<=b.1\/b.1+b.2<=a.1)->Backd A (KX A rs) rs
 | [],A,h,_,_,_=>⟨h,rfl,rfl,rfl,rfl,rfl,rfl,λp ⟨r,hr,_⟩=>by simp at hr,λp _=>⟨rfl,rfl⟩,λp=>Iff.rfl⟩
 | (a,m)::rs,A,h,hp,hu,hd=>by
  have hd':=zBT.1 hd;obtain⟨o,hi,hpg,hz⟩:=Wdb h (hp _ (zCC ..)) (hu _ (zCC ..));have ih:=Wdd rs hpg (λr hr=>hp r (zBK _ hr)) (λr hr p p1 p2=>by
   have:=hd'.1 r hr;simp only at this;rw[o.f p (by omega)];exact hu r (zBK _ hr) p p1 p2) hd'.2
  have e:KX A ((a,m)::rs)=KX (KO A (a,m)) rs:=rfl;rw[e];refine⟨ih.pg,ih.n,ih.tb,ih.room,ih.tra,ih.cen,ih.runs,λp hin=>?_,λp hin=>?_,λp=>(ih.z p).trans (hz p)⟩
  ·by_cases h2:inR rs p
   ·exact ih.i p h2
   ·have:=ih.o p h2;obtain⟨r,hr,p1,p2⟩:=hin;rcases zX.1 hr with rfl|hr
    ·rw[this.1,this.2];exact hi p p1 p2
    ·exact(h2 ⟨r,hr,p1,p2⟩).elim
  ·have h2:¬inR rs p:=λ⟨r,hr,hx⟩=>hin ⟨r,zBK _ hr,hx⟩;have h3:¬(a<=p/\p<a+m):=λhx=>hin ⟨(a,m),zCC ..,hx⟩;have:=ih.o p h2;exact⟨this.1.trans (o.f p h3),this.2.trans (o.ow p h3)⟩
theorem Wcv {A:AR}(h:PG A){a m no:Nat}(h1:1<=m)(hn:no≠0)(hS:∀p,a<=p->p<a+m->A.S p=true):Out A (useA A a m no) a (a+m)/\(∀p,a<=p->p<a+m->(useA A a m no).f p=1/\(useA A a m no).ow p=no)/\PG (useA A a m no)/\∀p,(useA A a m no).f p=0↔A.f p=0:=by
 have hA:∀p,a<=p->p<a+m->2<=A.f p:=λp p1 p2=>(h.fr p).1 (hS p p1 p2);have hl:a+m<=A.n:=by have:=h.lt (p:=a+m-1) (by have:=hA (a+m-1) (by omega) (by omega);omega);omega
 have hn2:=h.n2;have e1:(useA A a m no).st=setR A.st a (a+m) 1:=Wdq h1 (by rw[h.len];exact hl) λp p1 p2=>by
  have h2:=hA p p1 p2;have h3:=h.le p;unfold AR.f at h2 h3;have:gf A.st p=2\/gf A.st p=3:=by omega
  simpa using this
 have e3:∀p,(useA A a m no).ow p=if a<=p/\p<a+m then no else A.ow p:=λp=>Wf1 h1 (by omega) p
 have ef:∀p,(useA A a m no).f p=if a<=p/\p<a+m then 1 else A.f p:=λp=>by unfold AR.f;rw[e1,GQ (by rw[h.len];exact hl)]
 have o:Out A (useA A a m no) a (a+m):=⟨rfl,by rw[e1,QH],λp hp=>by rw[ef,zA hp],λp hp=>by rw[e3,zA hp],λp hp=>by
  show take A.S a (a+m) p=A.S p;unfold take;have:(decide (a<=p)&&decide (p<a+m))=false:=by simp;omega
  rw[this];simp⟩
 have hf:∀p,a<=p->p<a+m->(useA A a m no).f p=1:=λp p1 p2=>by rw[ef,zB ⟨p1,p2⟩]
 have hw:∀p,a<=p->p<a+m->(useA A a m no).ow p=no:=λp p1 p2=>by rw[e3,zB ⟨p1,p2⟩]
 have hz:=o.zero h hf (by omega) λp p1 p2=>by have:=hA p p1 p2;omega
 refine⟨o,λp p1 p2=>⟨hf p p1 p2,hw p p1 p2⟩,o.pg h (by omega) hf (λp p1 p2=>by rw[hw p p1 p2];simp[hn]) (λp p1 p2=>?_) (WkD h hz),hz⟩;show take A.S a (a+m) p=true↔_;rw[QD];constructor
 ·rintro⟨_,hx⟩;exact(hx ⟨p1,p2⟩).elim
 ·intro hx;omega
theorem WeK:∀(m:Nat) {st:List Nat} {a:Nat},(a+m)*16<=st.length->(∀p,a*16<=p->p<(a+m)*16->gf st p=0)->(VA st a m).length=st.length/\∀p,gf (VA st a m) p=if a*16<=p/\p<(a+m)*16 then 3 else gf st p
 | 0,st,a,hl,hz=>⟨rfl,λp=>by rw[zA (by omega)];rfl⟩
 | m+1,st,a,hl,hz=>by
  obtain⟨i1,i2⟩:=WeK m (st:=st) (a:=a) (by omega) λp p1 p2=>hz p p1 (by omega);rw[G0];have e0:gf (VA st a m) (16*(a+m))=0:=by rw[i2,zA (by omega)];exact hz _ (by omega) (by omega)
  have ok:addE (VA st a m) ((a+m:Nat):Int)=0:=by
   unfold addE;rw[GO (by rw[i1];omega),zB rfl,iTn];unfold gf at e0;rw[zB e0]
  have e:addT (VA st a m) ((a+m:Nat):Int)=setR (VA st a m) (16*(a+m)) (16*(a+m)+16) 3:=by
   unfold addT;rw[zB ok,iTn]
  rw[e];refine⟨by rw[QH,i1],λp=>?_⟩;rw[GQ (by rw[i1];omega),i2];by_cases h1:16*(a+m)<=p/\p<16*(a+m)+16
  ·rw[zB h1,zB (by omega)]
  ·rw[zA h1];by_cases h2:a*16<=p/\p<(a+m)*16
   ·rw[zB h2,zB (by omega)]
   ·rw[zA h2,zA (by omega)]
theorem HZ {sp:Sp}{s m:Nat}(h:mapE sp (s:Int) (m:Int)=0):1<=m/\s+m<=sp.st.length/\∀p,s<=p->p<s+m->gf sp.st p=0:=by
 unfold mapE at h;split at h
 ·rename_i hr;obtain⟨h1,h2⟩:=Vq.1 hr;rw[iTn,iTn]at h;split at h
  ·cases h
  ·rename_i hn;refine⟨h1,h2,λp p1 p2=>?_⟩;have hp:p<sp.st.length:=by omega
   have hm:sp.st[p]∈(sp.st.drop s).take m:=by
    refine zE (i:=p-s) ?_;rw[zg,zB (by omega),zu,show s+(p-s)=p by omega,gGe hp]
   simp only[zl,not_exists,not_and]at hn;have:=hn _ hm;unfold gf;rw[zO,gGe hp];simpa using this
 ·cases h
structure Grown (A B:AR) (sp sp':Sp) (s size:Nat):Prop where
 pg:PG B
 n:B.n=A.n
 tb:B.tb=A.tb
 room:B.room=A.room
 tra:B.tra=A.tra
 cen:B.cen=A.cen
 runs:B.runs=A.runs
 ow:B.ow=A.ow
 s16:s%16=0
 s1:16<=s
 sl:s+size<=A.n
 un:∀p,s<=p->p<s+size->gf sp.st p=0
 i:∀p,s<=p->p<s+size->B.f p=3/\gf sp'.st p=1
 o:∀p,¬(s<=p/\p<s+size)->B.f p=A.f p/\gf sp'.st p=gf sp.st p
 w:∀x,¬(s*32<=x/\x<(s+size)*32)->sp'.wd x=sp.wd x
 l:sp'.st.length=sp.st.length
 pk:sp'.pk=sp.pk
theorem VG {sp:Sp}{size s:Nat}(h1:1<=size)(h:growStart sp size=some s):mapE sp (s:Int) (size:Int)=0/\s≠0/\(∃j,s=j*size)/\∀j,j*size<s->1<=j->mapE sp ((j*size:Nat):Int) (size:Int)≠0:=by
 unfold growStart at h;obtain⟨hm,us,vs,he,hb⟩:=List.find?_eq_some_iff_append.1 h;simp only[zF,bne_iff_ne,ne_eq,zS]at hm;have hmem:s∈(List.range (sp.st.length/size)).map (· * size):=by rw[he];simp
 obtain⟨j,hj,rfl⟩:=zC.1 hmem;rw[zW]at hj;refine⟨hm.2,hm.1,⟨j,rfl⟩,λi hi h1i=>?_⟩;have hij:i<j:=Nat.lt_of_mul_lt_mul_right hi;have:i*size∈us:=by
  have hi2:i*size∈(List.range (sp.st.length/size)).map (· * size):=zC.2 ⟨i,zW.2 (by omega),rfl⟩;have hsorted:((List.range (sp.st.length/size)).map (· * size)).Pairwise (· < ·):=by
   rw[zCB];exact List.pairwise_lt_range.imp λ{a b} hab=>Nat.mul_lt_mul_of_pos_right hab (by omega)
  rw[he]at hi2 hsorted;rcases zM.1 hi2 with h|h
  ·exact h
  ·rcases zX.1 h with h|h
   ·have:=zEE (by omega) h;omega
   ·have:=(zBT.1 (zBR.1 hsorted).2.1).1 _ h;omega
 have:=hb _ this;have hne:i*size≠0:=by
  have:=Nat.mul_pos (show 0<i by omega) (show 0<size by omega);omega
 simpa[hne]using this
theorem Wf2 {sp:Sp}{s m:Nat}(h:mapE sp (s:Int) (m:Int)=0):(mapS sp (s:Int) (m:Int)).st.length=sp.st.length/\(∀p,gf (mapS sp (s:Int) (m:Int)).st p=if s<=p/\p<s+m then 1 else gf sp.st p)/\(∀x,¬(s*32<=x/\x<(s+m)*32)->(mapS sp (s:Int) (m:Int)).wd x=sp.wd x)/\(mapS sp (s:Int) (m:Int)).pk=sp.pk:=by
 obtain⟨h1,h2,_⟩:=HZ h;unfold mapS;rw[zB h,iTn,iTn];refine⟨by simp[Sp.set,QH],λp=>GQ h2,λx hx=>?_,rfl⟩;show(if s*32<=x/\x<(s+m)*32 then 0 else sp.wd x)=_
 rw[zA hx]
theorem Wg8 {A:AR}{sp:Sp}(h:PG A)(hl:sp.st.length=A.n)(hz:∀p,gf sp.st p=0->A.f p=0){size:Nat}(hs:size=16\/size=32\/size=64){B:AR}{sp':Sp}(hg:VE A sp size=some (B,sp')) :
 ∃s,growStart sp size=some s/\Grown A B sp sp' s size:=by
 unfold VE at hg;split at hg
 ·cases hg
 ·rename_i s hgs;cases hg;obtain⟨hm,h0,⟨j,hj⟩,_⟩:=VG (by omega) hgs;obtain⟨m1,m2,m3⟩:=HZ hm;have s16:s%16=0:=by rcases hs with rfl|rfl|rfl<;>omega
  have sz16:size%16=0:=by rcases hs with rfl|rfl|rfl<;>omega
  have e1:s/16*16=s:=by omega
  have e2:(s/16+size/16)*16=s+size:=by omega
  have hA0:∀p,s<=p->p<s+size->A.f p=0:=λp p1 p2=>hz p (m3 p p1 p2);obtain⟨a1,a2⟩:=WeK (size/16) (st:=A.st) (a:=s/16) (by rw[e2,h.len,←hl];exact m2) (by rw[e1,e2];exact hA0);rw[e1,e2]at a2;obtain⟨b1,b2,b3,b4⟩:=Wf2 hm;have hl':s+size<=A.n:=by rw[←hl];exact m2
  have eS:ZU A.n A.S (s:Int) (size:Int)=give A.S s (s+size):=Wdm m1 hl' λp p1 p2=>by
   apply zAQ.2;intro hS;have:=(h.fr p).1 hS;have:=hA0 p p1 p2;omega
  refine⟨s,hgs,⟨?_,rfl,rfl,rfl,rfl,rfl,rfl,rfl,s16,by omega,hl',m3,λp p1 p2=>⟨?_,?_⟩,λp hp=>⟨?_,?_⟩,b3,b1,b4⟩⟩
  ·have o:Out A {A with st:=VA A.st (s/16) (size/16),S:=ZU A.n A.S (s:Int) (size:Int)} s (s+size):=⟨rfl,a1,λp hp=>by show gf _ p=_;rw[a2,zA hp];rfl,λp hp=>rfl,λp hp=>by
    show ZU A.n A.S (s:Int) (size:Int) p=A.S p;rw[eS];unfold give;have:(decide (s<=p)&&decide (p<s+size))=false:=by simp;omega
    rw[this,Bool.or_false]⟩
   have hf:∀p,s<=p->p<s+size->AR.f {A with st:=VA A.st (s/16) (size/16),S:=ZU A.n A.S (s:Int) (size:Int)} p=3:=λp p1 p2=>by show gf _ p=3;rw[a2,zB ⟨p1,p2⟩]
   refine o.pg h (zD _) hf (λp p1 p2=>?_) (λp p1 p2=>?_) λp=>?_
   ·have h0:=hA0 p p1 p2;have:=h.us p;constructor
    ·intro hx;omega
    ·intro hx;have:=this.2 hx;omega
   ·show ZU A.n A.S (s:Int) (size:Int) p=true↔_;rw[eS,Qq];exact⟨λ_=>by omega,λ_=>.inr ⟨p1,p2⟩⟩
   ·by_cases hp:s<=p/\p<s+size
    ·rw[hf p hp.1 hp.2,hf (p/16*16) (by omega) (by omega)]
    ·rw[o.f p hp,o.f (p/16*16) (by omega)];exact h.hp p
  ·show gf (VA A.st (s/16) (size/16)) p=3;rw[a2,zB ⟨p1,p2⟩]
  ·rw[b2,zB ⟨p1,p2⟩]
  ·show gf (VA A.st (s/16) (size/16)) p=A.f p;rw[a2,zA hp];rfl
  ·rw[b2,zA hp]
end Go.Ar
namespace Go.Ar
open Go.Bu (YT ZU YR Gw Q6 give take Qq QD Bounded full can Yh KC Y8 Z2 Zd Qp Z3 Zv)
def Cl (A:AR)(k:Nat)(c:Cls)(ss:List SpA):Prop:=A.tb[k]?=some c/\A.cen[k]?=some ss
def TkA (A:AR)(k:Nat)(x:Int):Prop:=∃c ss,Cl A k c ss/\Tk c ss x
def InT (A:AR)(k:Nat)(x:Int):Prop:=∃t,A.tra[k]?=some t/\x∈t.bs.flatten
structure GA (A:AR):Prop where
 pg:PG A
 tb:A.tb.length<=40
 lc:A.cen.length=A.tb.length
 lt:A.tra.length=A.tb.length
 cen:∀k c ss,Cl A k c ss->CenOk c ss
 one:∀k c ss,Cl A k c ss->∀s∈ss,s.st/16=(s.st+c.pages-1)/16
 ow:∀k c ss,Cl A k c ss->∀p,A.ow p=k+1↔Cov c ss p
 ow41:∀p,A.ow p=41↔inR A.runs p
 owb:∀p,A.ow p=41\/A.ow p<=A.tb.length
 rpos:∀r∈A.runs,1<=r.2
 rdis:A.runs.Pairwise λa b=>a.1+a.2<=b.1\/b.1+b.2<=a.1
 trn:∀(k:Nat) (t:TrA),A.tra[k]?=some t->t.bs.flatten.Nodup
 trt:∀(k:Nat) c ss (t:TrA),Cl A k c ss->A.tra[k]?=some t->∀x∈t.bs.flatten,Tk c ss x
 trb:∀(k:Nat) (c:Cls) (t:TrA),A.tb[k]?=some c->A.tra[k]?=some t->∀xs∈t.bs,xs.length=c.batch
structure Kp (A B:AR):Prop where
 n:B.n=A.n
 tb:B.tb=A.tb
 room:B.room=A.room
 z:∀p,B.f p=0↔A.f p=0
 t:∀p,B.f p=3->A.f p=3
theorem Kp.refl (A:AR):Kp A A:=⟨rfl,rfl,rfl,λ_=>Iff.rfl,λ_=>id⟩
theorem Kp.trans {A B C:AR}(h:Kp A B)(k:Kp B C):Kp A C:=⟨k.n.trans h.n,k.tb.trans h.tb,k.room.trans h.room,λp=>(k.z p).trans (h.z p),λp hp=>h.t p (k.t p hp)⟩
theorem Kp.pages {A B:AR}(e1:B.n=A.n)(e2:B.tb=A.tb)(e3:B.room=A.room)(e4:B.st=A.st):Kp A B:=⟨e1,e2,e3,λp=>by unfold AR.f;rw[e4],λp=>by unfold AR.f;rw[e4];exact id⟩
variable {A:AR}{k:Nat}{c:Cls}{ss:List SpA}
theorem Cl.lt (h:Cl A k c ss):k<A.tb.length:=(gSi.1 h.1).1
theorem Cl.eq {c':Cls}{ss':List SpA}(h:Cl A k c ss)(h':Cl A k c' ss'):c=c'/\ss=ss':=⟨Option.some.inj (h.1.symm.trans h'.1),Option.some.inj (h.2.symm.trans h'.2)⟩
theorem GA.cl (h:GA A){k:Nat}(hk:k<A.tb.length):∃c ss t,Cl A k c ss/\A.tra[k]?=some t:=by
 have h1:=h.lc;have h2:=h.lt;exact⟨A.tb[k],A.cen[k],A.tra[k],⟨by simp,by simp⟩,by simp⟩
theorem GA.used (h:GA A)(hk:Cl A k c ss){s:SpA}(hs:s∈ss){p:Nat}(h1:s.st<=p)(h2:p<s.st+c.pages):A.f p=1/\A.ow p=k+1:=by
 have:=(h.ow k c ss hk p).2 ⟨s,hs,h1,h2⟩;exact⟨(h.pg.us p).2 (by omega),this⟩
theorem GA.usedR (h:GA A){r:Nat×Nat}(hr:r∈A.runs){p:Nat}(h1:r.1<=p)(h2:p<r.1+r.2):A.f p=1/\A.ow p=41:=by
 have:=(h.ow41 p).2 ⟨r,hr,h1,h2⟩;exact⟨(h.pg.us p).2 (by omega),this⟩
theorem GA.runs_uniq (h:GA A){r s:Nat×Nat}(hr:r∈A.runs)(hs:s∈A.runs){x:Nat}(h1:r.1<=x)(h2:x<r.1+r.2)(h3:s.1<=x)(h4:x<s.1+s.2):r=s:=by
 obtain⟨i,hi⟩:=zL hr;obtain⟨j,hj⟩:=zL hs;obtain⟨hi1,rfl⟩:=gSi.1 hi;obtain⟨hj1,rfl⟩:=gSi.1 hj;rcases zBO i j with hl|hl|hl
 ·have:=zAF.1 h.rdis i j hi1 hj1 hl;omega
 ·subst hl;rfl
 ·have:=zAF.1 h.rdis j i hj1 hi1 hl;omega
theorem GA.fit (h:GA A){r:Nat×Nat}(hr:r∈A.runs):r.1+r.2<=A.n:=by
 have:=h.rpos r hr;have:=h.pg.lt (p:=r.1+r.2-1) (by rw[(h.usedR hr (p:=r.1+r.2-1) (by omega) (by omega)).1];omega);omega
theorem GA.runsOk (h:GA A):RunsOk A:=by
 have hn:=h.pg.n2;refine⟨λr hr s hs x h1 h2 h3 h4=>h.runs_uniq hr hs h1 h2 h3 h4,λx hx h41=>?_,λx hx h0 h41=>?_,λr hr=>?_⟩
 ·obtain⟨r,hr,h1,h2⟩:=(h.ow41 x).1 h41;unfold WbY;rw[zGE];exact⟨r,hr,by simp[h1,h2]⟩
 ·rcases h.owb x with e|e
  ·exact(h41 e).elim
  ·exact e
 ·have:=h.fit hr;omega
theorem Vo (hk:Cl A k c ss){ss':List SpA}{j:Nat}{d:Cls}{tt:List SpA}(h:Cl {A with cen:=A.cen.set k ss'} j d tt):(j=k/\d=c/\tt=ss')\/(j≠k/\Cl A j d tt):=by
 obtain⟨h1,h2⟩:=h;by_cases hjk:j=k
 ·subst hjk;have hl:=(gSi.1 hk.2).1;simp only[zK hl]at h2;exact .inl ⟨rfl,Option.some.inj (h1.symm.trans hk.1),(Option.some.inj h2).symm⟩
 ·simp only[zf (Ne.symm hjk)]at h2;exact .inr ⟨hjk,h1,h2⟩
theorem VK (hk:Cl A k c ss)(ss':List SpA):Cl {A with cen:=A.cen.set k ss'} k c ss':=⟨hk.1,zK (gSi.1 hk.2).1⟩
theorem WfO {ss':List SpA}{j:Nat}{d:Cls}{tt:List SpA}(hjk:j≠k)(h:Cl A j d tt):Cl {A with cen:=A.cen.set k ss'} j d tt:=⟨h.1,(zf (Ne.symm hjk)).trans h.2⟩
theorem GA.setCen (h:GA A)(hk:Cl A k c ss){ss':List SpA}(hC:CenOk c ss')(hst:ss'.map (·.st)=ss.map (·.st))(ht:∀t,A.tra[k]?=some t->∀x∈t.bs.flatten,Tk c ss' x):GA {A with cen:=A.cen.set k ss'}:=by
 refine⟨h.pg.same rfl rfl rfl rfl,h.tb,by simp[h.lc],h.lt,λj d tt hj=>?_,λj d tt hj s hs=>?_,λj d tt hj p=>?_,h.ow41,h.owb,h.rpos,h.rdis,h.trn,λj d tt t hj htr=>?_,h.trb⟩
 ·rcases Vo hk hj with⟨rfl,rfl,rfl⟩|⟨hne,hj⟩
  ·exact hC
  ·exact h.cen j d tt hj
 ·rcases Vo hk hj with⟨rfl,rfl,rfl⟩|⟨hne,hj⟩
  ·have:s.st∈ss.map (·.st):=by rw[←hst];exact zC.2 ⟨s,hs,rfl⟩
   obtain⟨t,ht,e⟩:=zC.1 this;rw[←e];exact h.one _ _ _ hk t ht
  ·exact h.one j d tt hj s hs
 ·rcases Vo hk hj with⟨rfl,rfl,rfl⟩|⟨hne,hj⟩
  ·rw[WkV hst];exact h.ow _ _ _ hk p
  ·exact h.ow j d tt hj p
 ·rcases Vo hk hj with⟨rfl,rfl,rfl⟩|⟨hne,hj⟩
  ·exact ht t htr
  ·exact h.trt j d tt t hj htr
theorem Wao (hk:Cl A k c ss){ss':List SpA}{j:Nat}{x:Int}:TkA {A with cen:=A.cen.set k ss'} j x↔(j=k/\Tk c ss' x)\/(j≠k/\TkA A j x):=by
 constructor
 ·rintro⟨d,tt,hj,hx⟩;rcases Vo hk hj with⟨rfl,rfl,rfl⟩|⟨hne,hj⟩
  ·exact .inl ⟨rfl,hx⟩
  ·exact .inr ⟨hne,d,tt,hj,hx⟩
 ·rintro(⟨rfl,hx⟩|⟨hne,d,tt,hj,hx⟩)
  ·exact⟨c,ss',VK hk ss',hx⟩
  ·exact⟨d,tt,WfO hne hj,hx⟩
theorem Q0 (hk:Cl A k c ss){x:Int}:TkA A k x↔Tk c ss x:=by
 constructor
 ·rintro⟨d,tt,hj,hx⟩;obtain⟨rfl,rfl⟩:=hk.eq hj;exact hx
 ·intro hx;exact⟨c,ss,hk,hx⟩
def swp (A:AR)(k:Nat)(c:Cls)(ss:List SpA):AR:=KX {A with cen:=A.cen.set k (sweep ss)} ((ZH ss).map λs=>(s,c.pages))
theorem Hx {p:Nat}:inR ((ZH ss).map λs=>(s,c.pages)) p↔∃x∈ZH ss,x<=p/\p<x+c.pages:=by
 unfold inR;simp only[zC];constructor
 ·rintro⟨_,⟨x,hx,rfl⟩,h⟩;exact⟨x,hx,h⟩
 ·rintro⟨x,hx,h⟩;exact⟨_,⟨x,hx,rfl⟩,h⟩
theorem GA.swept_used (h:GA A)(hk:Cl A k c ss){x:Nat}(hx:x∈ZH ss){p:Nat}(h1:x<=p)(h2:p<x+c.pages):A.f p=1/\A.ow p=k+1:=by
 obtain⟨s,hs,_,rfl⟩:=Hz.1 hx;exact h.used hk hs h1 h2
theorem GA.swpB (h:GA A)(hk:Cl A k c ss):Backd {A with cen:=A.cen.set k (sweep ss)} (swp A k c ss) ((ZH ss).map λs=>(s,c.pages)):=by
 have hC:=h.cen k c ss hk;refine Wdd _ (h.pg.same rfl rfl rfl rfl) (λr hr=>?_) (λr hr p p1 p2=>?_) ?_
 ·obtain⟨x,_,rfl⟩:=zC.1 hr;exact hC.pg
 ·obtain⟨x,hx,rfl⟩:=zC.1 hr;exact(h.swept_used hk hx p1 p2).1
 ·rw[zCB];exact(WeO hC).imp λ{a b} hab=>.inl hab
theorem GA.swp (h:GA A)(hk:Cl A k c ss):GA (Go.Ar.swp A k c ss):=by
 have b:=h.swpB hk;have hC:=h.cen k c ss hk;have hkl:=hk.lt;have htb:=h.tb;have cl:∀{j d tt},Cl (Go.Ar.swp A k c ss) j d tt->(j=k/\d=c/\tt=sweep ss)\/(j≠k/\Cl A j d tt):=λ{j d tt} hj=>Vo hk ⟨by rw[←b.tb];exact hj.1,by rw[←b.cen];exact hj.2⟩;have own:∀p,inR ((ZH ss).map λs=>(s,c.pages)) p->A.ow p=k+1:=λp hp=>by
  obtain⟨x,hx,h1,h2⟩:=Hx.1 hp;exact(h.swept_used hk hx h1 h2).2
 have tra:(Go.Ar.swp A k c ss).tra=A.tra:=b.tra;have tb:(Go.Ar.swp A k c ss).tb=A.tb:=b.tb;have runs:(Go.Ar.swp A k c ss).runs=A.runs:=b.runs;refine⟨b.pg,by rw[tb];exact h.tb,by rw[b.cen,tb];simp[h.lc],by rw[tra,tb];exact h.lt,λj d tt hj=>?_,λj d tt hj s hs=>?_,λj d tt hj p=>?_,λp=>?_,λp=>?_,by rw[runs];exact h.rpos,by rw[runs];exact h.rdis,by rw[tra];exact h.trn,λj d tt t hj htr=>?_,by rw[tra,tb];exact h.trb⟩
 ·rcases cl hj with⟨rfl,rfl,rfl⟩|⟨hne,hj⟩
  ·exact hC.sweep
  ·exact h.cen j d tt hj
 ·rcases cl hj with⟨rfl,rfl,rfl⟩|⟨hne,hj⟩
  ·exact h.one _ _ _ hk s (zH.1 hs).1
  ·exact h.one j d tt hj s hs
 ·by_cases hp:inR ((ZH ss).map λs=>(s,c.pages)) p
  ·rw[(b.i p hp).2];have ho:=own p hp;rcases cl hj with⟨rfl,rfl,rfl⟩|⟨hne,hj⟩
   ·rw[Wbi hC];constructor
    ·intro e;omega
    ·rintro⟨_,hn⟩;exact(hn (Hx.1 hp)).elim
   ·rw[←h.ow j d tt hj p,ho];omega
  ·rw[(b.o p hp).2];rcases cl hj with⟨rfl,rfl,rfl⟩|⟨hne,hj⟩
   ·rw[Wbi hC];show A.ow p=_↔_;rw[h.ow _ _ _ hk p];exact⟨λhx=>⟨hx,λhy=>hp (Hx.2 hy)⟩,λhx=>hx.1⟩
   ·exact h.ow j d tt hj p
 ·rw[runs];by_cases hp:inR ((ZH ss).map λs=>(s,c.pages)) p
  ·rw[(b.i p hp).2,←h.ow41,own p hp];omega
  ·rw[(b.o p hp).2];exact h.ow41 p
 ·rw[tb];by_cases hp:inR ((ZH ss).map λs=>(s,c.pages)) p
  ·rw[(b.i p hp).2];omega
  ·rw[(b.o p hp).2];exact h.owb p
 ·rw[tra]at htr;rcases cl hj with⟨rfl,rfl,rfl⟩|⟨hne,hj⟩
  ·intro x hx;exact(Wdo hC).2 (h.trt _ _ _ t hk htr x hx)
  ·exact h.trt j d tt t hj htr
theorem GA.swpK (h:GA A)(hk:Cl A k c ss):Kp A (Go.Ar.swp A k c ss):=by
 have b:=h.swpB hk;refine⟨b.n,b.tb,b.room,b.z,λp hp=>?_⟩;by_cases hi:inR ((ZH ss).map λs=>(s,c.pages)) p
 ·rw[(b.i p hi).1]at hp;omega
 ·rw[(b.o p hi).1]at hp;exact hp
theorem GA.swpT (h:GA A)(hk:Cl A k c ss){j:Nat}{x:Int}:TkA (Go.Ar.swp A k c ss) j x↔TkA A j x:=by
 have b:=h.swpB hk;have hC:=h.cen k c ss hk;have e:TkA (Go.Ar.swp A k c ss) j x↔TkA {A with cen:=A.cen.set k (sweep ss)} j x:=by unfold TkA Cl;rw[b.tb,b.cen]
 rw[e,Wao hk,Wdo hC];constructor
 ·rintro(⟨rfl,hx⟩|⟨_,hx⟩)
  ·exact(Q0 hk).2 hx
  ·exact hx
 ·intro hx;by_cases hjk:j=k
  ·subst hjk;exact .inl ⟨rfl,(Q0 hk).1 hx⟩
  ·exact .inr ⟨hjk,hx⟩
theorem V7 {k:Int}:A.ck k=true↔∃j:Nat,k=j/\j<A.tb.length:=by
 unfold AR.ck;simp only[zF,zN];constructor
 ·intro h;exact⟨k.toNat,by omega,by omega⟩
 ·rintro⟨j,rfl,h⟩;omega
structure Ob (A B:AR):Prop where
 ga:GA B
 kp:Kp A B
 runs:B.runs=A.runs
theorem Wad (h:GA A)(k m:Int):Ob A (Yg A k m)/\(Yg A k m).tra=A.tra/\(XZ A k m).Nodup/\(XZ A k m≠[]->∃j:Nat,k=j/\j<A.tb.length)/\(∀x∈XZ A k m,¬TkA A k.toNat (x:Int)) ∧
 ∀j y,TkA (Yg A k m) j y↔TkA A j y\/(j=k.toNat/\∃x∈XZ A k m,y=((x:Nat):Int)):=by
 by_cases h0:ZS A k m=0
 ·have hck:A.ck k=true:=by
   unfold ZS at h0;split at h0
   ·assumption
   ·cases h0
  obtain⟨j,rfl,hj⟩:=V7.1 hck;obtain⟨c,ss,t,hk,ht⟩:=h.cl hj;have eR:Kf A (j:Int) m=Qg c m.toNat ss:=by unfold Kf;rw[iTn,hk.1,hk.2]
  have eS:Yg A (j:Int) m = {A with cen:=A.cen.set j (Qg c m.toNat ss).2}:=by unfold Yg;rw[zB h0,eR,iTn]
  have eV:XZ A (j:Int) m=(Qg c m.toNat ss).1:=by unfold XZ;rw[zB h0,eR]
  rw[eS,eV];obtain⟨s1,s2,s3,s4,s5,s6⟩:=Ug m.toNat (h.cen j c ss hk);refine⟨⟨h.setCen hk s1 s2 λt' ht' x hx=>(s6 x).2 (.inr (h.trt j c ss t' hk ht' x hx)),Kp.pages rfl rfl rfl rfl,rfl⟩,rfl,s4,λ_=>⟨j,rfl,hj⟩,λx hx=>?_,λi y=>?_⟩
  ·rw[iTn,Q0 hk];exact s5 x hx
  ·rw[Wao hk,s6,iTn];by_cases hij:i=j
   ·subst hij;rw[Q0 hk];constructor
    ·rintro(⟨_,hx|hx⟩|⟨hx,_⟩)
     ·exact .inr ⟨rfl,hx⟩
     ·exact .inl hx
     ·exact(hx rfl).elim
    ·rintro(hx|⟨_,hx⟩)
     ·exact .inl ⟨rfl,.inr hx⟩
     ·exact .inl ⟨rfl,.inl hx⟩
   ·constructor
    ·rintro(⟨hx,_⟩|⟨_,hx⟩)
     ·exact(hij hx).elim
     ·exact .inl hx
    ·rintro(hx|⟨hx,_⟩)
     ·exact .inr ⟨hij,hx⟩
     ·exact(hij hx).elim
 ·have eS:Yg A k m=A:=by unfold Yg;rw[zA h0]
  have eV:XZ A k m=[]:=by unfold XZ;rw[zA h0]
  rw[eS,eV];exact⟨⟨h,Kp.refl A,rfl⟩,rfl,zCE,by simp,by simp,by simp⟩
theorem Wff {xs:List Int}(h:AllT c ss xs):putE c ss xs=0:=by
 unfold putE;have h1:xs.any (λx=>(isTk c ss x).isNone)=false:=by
  rw[zAP];intro x hx;rw[h.1 x hx];simp
 have h2:xs.any (λx=>isTk c ss x==some false)=false:=by
  rw[zAP];intro x hx;rw[h.1 x hx];simp
 rw[h1,h2,zQ h.2];rfl
theorem UC (h:GA A)(hk:Cl A k c ss)(xs:List Int):Z6 A (k:Int) xs=putE c ss xs:=by
 unfold Z6;rw[V7.2 ⟨k,rfl,hk.lt⟩,zB rfl,iTn,hk.1,hk.2]
theorem Gm (h:GA A){k:Int}{xs:List Int}(h0:Z6 A k xs=0):∃(j:Nat) (c:Cls) (ss:List SpA),k=j/\Cl A j c ss/\AllT c ss xs:=by
 have hck:A.ck k=true:=by
  unfold Z6 at h0;split at h0
  ·assumption
  ·cases h0
 obtain⟨j,rfl,hj⟩:=V7.1 hck;obtain⟨c,ss,t,hk,ht⟩:=h.cl hj;rw[UC h hk]at h0;exact⟨j,c,ss,rfl,hk,Wfz h0⟩
theorem WaK (h:GA A){k:Int}{xs:List Int}(hd:Z6 A k xs=0->∀x∈xs,¬InT A k.toNat x):Ob A (Zb A k xs)/\(Zb A k xs).tra=A.tra ∧
 (Z6 A k xs=0->∀j y,TkA (Zb A k xs) j y↔TkA A j y/\¬(j=k.toNat/\y∈xs))/\(Z6 A k xs≠0->Zb A k xs=A):=by
 by_cases h0:Z6 A k xs=0
 ·obtain⟨j,c,ss,rfl,hk,hA⟩:=Gm h h0;obtain⟨p1,p2,p3⟩:=WbQ xs (h.cen j c ss hk) hA;have g1:=h.setCen hk p1 p2 λt ht x hx=>(p3 x).2 ⟨h.trt j c ss t hk ht x hx,λhm=>hd h0 x hm ⟨t,by rw[iTn];exact ht,hx⟩⟩;have hk1:=VK hk (xs.foldl (put1 c) ss);have eS:Zb A (j:Int) xs=swp {A with cen:=A.cen.set j (xs.foldl (put1 c) ss)} j c (xs.foldl (put1 c) ss):=by
   unfold Zb swp;rw[zB h0,iTn,hk.1,hk.2];simp only[zBC]
  have b:=g1.swpB hk1;rw[eS];refine⟨⟨g1.swp hk1,(Kp.pages rfl rfl rfl rfl:Kp A {A with cen:=A.cen.set j (xs.foldl (put1 c) ss)}).trans (g1.swpK hk1),b.runs⟩,b.tra,λ_ i y=>?_,λhn=>(hn h0).elim⟩;rw[g1.swpT hk1,Wao hk,p3,iTn];by_cases hij:i=j
  ·subst hij;rw[Q0 hk];constructor
   ·rintro(⟨_,hx,hy⟩|⟨hx,_⟩)
    ·exact⟨hx,λhz=>hy hz.2⟩
    ·exact(hx rfl).elim
   ·rintro⟨hx,hy⟩;exact .inl ⟨rfl,hx,λhz=>hy ⟨rfl,hz⟩⟩
  ·constructor
   ·rintro(⟨hx,_⟩|⟨_,hx⟩)
    ·exact(hij hx).elim
    ·exact⟨hx,λhz=>hij hz.1⟩
   ·rintro⟨hx,_⟩;exact .inr ⟨hij,hx⟩
 ·have eS:Zb A k xs=A:=by unfold Zb;rw[zA h0]
  rw[eS];exact⟨⟨h,Kp.refl A,rfl⟩,rfl,λhx=>(h0 hx).elim,λ_=>rfl⟩
theorem GA.setTra (h:GA A){k:Nat}{t':TrA}(h1:t'.bs.flatten.Nodup)(h2:∀x∈t'.bs.flatten,TkA A k x)(h3:∀c,A.tb[k]?=some c->∀xs∈t'.bs,xs.length=c.batch):GA {A with tra:=A.tra.set k t'}:=by
 have get:∀{j t},(A.tra.set k t')[j]?=some t->(j=k/\t=t')\/(j≠k/\A.tra[j]?=some t):=by
  intro j t hj;by_cases hjk:j=k
  ·subst hjk;have hl:j<A.tra.length:=by have:=(gSi.1 hj).1;simpa using this
   rw[zK hl]at hj;exact .inl ⟨rfl,(Option.some.inj hj).symm⟩
  ·rw[zf (Ne.symm hjk)]at hj;exact .inr ⟨hjk,hj⟩
 refine⟨h.pg.same rfl rfl rfl rfl,h.tb,h.lc,by simp[h.lt],h.cen,h.one,h.ow,h.ow41,h.owb,h.rpos,h.rdis,λj t hj=>?_,λj c ss t hc hj x hx=>?_,λj c t hc hj=>?_⟩
 ·rcases get hj with⟨rfl,rfl⟩|⟨_,hj⟩
  ·exact h1
  ·exact h.trn j t hj
 ·rcases get hj with⟨rfl,rfl⟩|⟨_,hj⟩
  ·exact(Q0 hc).1 (h2 x hx)
  ·exact h.trt j c ss t hc hj x hx
 ·rcases get hj with⟨rfl,rfl⟩|⟨_,hj⟩
  ·exact h3 c hc
  ·exact h.trb j c t hc hj
theorem WaD {t':TrA}{j:Nat}{x:Int}(hk:k<A.tra.length):InT {A with tra:=A.tra.set k t'} j x↔(j=k/\x∈t'.bs.flatten)\/(j≠k/\InT A j x):=by
 by_cases hjk:j=k
 ·subst hjk;have e0:(A.tra.set j t')[j]?=some t':=zK hk;constructor
  ·rintro⟨t,e,hx⟩;have e:(A.tra.set j t')[j]?=some t:=e;rw[e0]at e;cases e;exact .inl ⟨rfl,hx⟩
  ·rintro(⟨_,hx⟩|⟨hx,_⟩)
   ·exact⟨_,e0,hx⟩
   ·exact(hx rfl).elim
 ·have e0:(A.tra.set k t')[j]?=A.tra[j]? := zf (Ne.symm hjk);constructor
  ·rintro⟨t,e,hx⟩;have e:(A.tra.set k t')[j]?=some t:=e;rw[e0]at e;exact .inr ⟨hjk,t,e,hx⟩
  ·rintro(⟨hx,_⟩|⟨_,t,e,hx⟩)
   ·exact(hjk hx).elim
   ·exact⟨t,e0.trans e,hx⟩
theorem UF {t:TrA}(ht:A.tra[k]?=some t){x:Int}:InT A k x↔x∈t.bs.flatten:=by
 constructor
 ·rintro⟨t',e,hx⟩;rw[ht]at e;cases e;exact hx
 ·intro hx;exact⟨t,ht,hx⟩
theorem WbX (h:GA A)(k:Int):Ob A (Zf A k)/\(∀j y,TkA (Zf A k) j y↔TkA A j y)/\(∀x∈Ye A k,InT A k.toNat x)/\(Ye A k).Nodup/\(Ye A k≠[]->∃j:Nat,k=j/\j<A.tb.length) ∧
 ∀j y,InT (Zf A k) j y↔InT A j y/\¬(j=k.toNat/\y∈Ye A k):=by
 by_cases h0:Zu A k=0
 ·have hck:A.ck k=true:=by
   unfold Zu at h0;split at h0
   ·assumption
   ·cases h0
  obtain⟨j,rfl,hj⟩:=V7.1 hck;obtain⟨c,ss,t,hk,ht⟩:=h.cl hj;have hne:t.bs≠[]:=by
   intro e;unfold Zu at h0;rw[hck,zB rfl,iTn,ht]at h0;simp[e]at h0
  have eS:Zf A (j:Int) = {A with tra:=A.tra.set j t.rem}:=by unfold Zf;rw[zB h0,iTn,QX ht]
  have eV:Ye A (j:Int)=t.bs.getLast?.getD []:=by unfold Ye;rw[zB h0,iTn,ht]
  have hsp:t.bs=t.bs.dropLast++[t.bs.getLast hne]:=(List.dropLast_concat_getLast hne).symm;have hv:Ye A (j:Int)=t.bs.getLast hne:=by rw[eV,List.getLast?_eq_some_getLast hne];rfl
  have hfl:t.bs.flatten=t.bs.dropLast.flatten++t.bs.getLast hne:=by
   conv=>lhs;rw[hsp]
   simp
  have hnd:=h.trn j t ht;rw[hfl]at hnd;have hnd':=zAY.1 hnd;have hrem:t.rem.bs=t.bs.dropLast:=rfl;rw[eS,hv];refine⟨⟨h.setTra (by rw[hrem];exact hnd'.1) (λx hx=>(Q0 hk).2 (h.trt j c ss t hk ht x (by rw[hfl];exact zAM _ hx))) λc' hc' xs hxs=>h.trb j c' t hc' ht xs ((List.dropLast_sublist _).subset hxs),Kp.pages rfl rfl rfl rfl,rfl⟩,λ_ _=>Iff.rfl,λx hx=>?_,hnd'.2.1,λ_=>⟨j,rfl,hj⟩,λi y=>?_⟩
  ·rw[iTn,UF ht,hfl];exact zBL _ hx
  ·rw[WaD (by rw[h.lt];exact hj),hrem,iTn];by_cases hij:i=j
   ·subst hij;rw[UF ht,hfl,zM];constructor
    ·rintro(⟨_,hx⟩|⟨hx,_⟩)
     ·exact⟨.inl hx,λhy=>hnd'.2.2 y hx y hy.2 rfl⟩
     ·exact(hx rfl).elim
    ·rintro⟨hx|hx,hy⟩
     ·exact .inl ⟨rfl,hx⟩
     ·exact(hy ⟨rfl,hx⟩).elim
   ·constructor
    ·rintro(⟨hx,_⟩|⟨_,hx⟩)
     ·exact(hij hx).elim
     ·exact⟨hx,λhy=>hij hy.1⟩
    ·rintro⟨hx,_⟩;exact .inr ⟨hij,hx⟩
 ·have eS:Zf A k=A:=by unfold Zf;rw[zA h0]
  have eV:Ye A k=[]:=by unfold Ye;rw[zA h0]
  rw[eS,eV];exact⟨⟨h,Kp.refl A,rfl⟩,λ_ _=>Iff.rfl,by simp,zCE,by simp,by simp⟩
theorem WiU (h:GA A)(k:Int){xs:List Int}(hn:xs.Nodup)(hd:∀x∈xs,¬InT A k.toNat x):Ob A (Qh A k xs)/\(∀j y,TkA (Qh A k xs) j y↔TkA A j y) ∧
 (Kb A k xs=true->(∃j:Nat,k=j/\j<A.tb.length)/\(∀x∈xs,TkA A k.toNat x)/\∀j y,InT (Qh A k xs) j y↔InT A j y\/(j=k.toNat/\y∈xs))/\(Kb A k xs=false->Qh A k xs=A):=by
 by_cases h0:Kb A k xs=true
 ·have hE:V5 A k xs=0:=by
   unfold Kb at h0;simp only[zF,zN]at h0;exact h0.1
  have hck:A.ck k=true:=by
   unfold V5 at hE;split at hE
   ·assumption
   ·cases hE
  obtain⟨j,rfl,hj⟩:=V7.1 hck;obtain⟨c,ss,t,hk,ht⟩:=h.cl hj;have hE':=hE;unfold V5 at hE';rw[hck,zB rfl,iTn,hk.1,hk.2]at hE';simp only at hE';have hlen:xs.length=c.batch:=by
   apply Classical.byContradiction;intro hx;rw[zA hx]at hE';cases hE'
  rw[zB hlen]at hE';have htk:∀x∈xs,TkA A j x:=by
   intro x hx;split at hE'
   ·rename_i ha;rw[zw]at ha;rw[Q0 hk];simpa[Tk]using ha x hx
   ·cases hE'
  have eS:Qh A (j:Int) xs = {A with tra:=A.tra.set j {t with bs:=t.bs++[xs]}}:=by unfold Qh;rw[zB h0,iTn,QX ht]
  have hfl:(t.bs++[xs]).flatten=t.bs.flatten++xs:=by simp
  rw[eS];refine⟨⟨h.setTra ?_ ?_ ?_,Kp.pages rfl rfl rfl rfl,rfl⟩,λ_ _=>Iff.rfl,λ_=>⟨⟨j,rfl,hj⟩,by rw[iTn];exact htk,λi y=>?_⟩,λhf=>by rw[hf]at h0;cases h0⟩
  ·show(t.bs++[xs]).flatten.Nodup;rw[hfl,zAY];exact⟨h.trn j t ht,hn,λa ha b hb e=>hd b hb (by subst e;rw[iTn,UF ht];exact ha)⟩
  ·intro x hx;have hx:x∈(t.bs++[xs]).flatten:=hx;rw[hfl,zM]at hx;rcases hx with hx|hx
   ·exact(Q0 hk).2 (h.trt j c ss t hk ht x hx)
   ·exact htk x hx
  ·intro c' hc' ys hys;have hys:ys∈t.bs++[xs]:=hys;rcases zM.1 hys with hys|hys
   ·exact h.trb j c' t hc' ht ys hys
   ·simp only[zR]at hys;rw[hk.1]at hc';cases hc';rw[hys];exact hlen
  ·rw[WaD (by rw[h.lt];exact hj),iTn];show(i=j/\y∈(t.bs++[xs]).flatten)\/_↔_;rw[hfl,zM];by_cases hij:i=j
   ·subst hij;rw[UF ht];constructor
    ·rintro(⟨_,hx|hx⟩|⟨hx,_⟩)
     ·exact .inl hx
     ·exact .inr ⟨rfl,hx⟩
     ·exact(hx rfl).elim
    ·rintro(hx|⟨_,hx⟩)
     ·exact .inl ⟨rfl,.inl hx⟩
     ·exact .inl ⟨rfl,.inr hx⟩
   ·constructor
    ·rintro(⟨hx,_⟩|⟨_,hx⟩)
     ·exact(hij hx).elim
     ·exact .inl hx
    ·rintro(hx|⟨hx,_⟩)
     ·exact .inr ⟨hij,hx⟩
     ·exact(hij hx).elim
 ·have eS:Qh A k xs=A:=by unfold Qh;rw[zA h0]
  rw[eS];exact⟨⟨h,Kp.refl A,rfl⟩,λ_ _=>Iff.rfl,λhx=>(h0 hx).elim,λ_=>rfl⟩
end Go.Ar
namespace Go.Ar
open Go.Bu (YT ZU YR Gw Q6 give take Qq QD Bounded full can Yh KC Y8 Z2 Zd Qp Z3 Zv KH VL take_in)
variable {A:AR}{sp:Sp}{k:Nat}{c:Cls}{ss:List SpA}
structure Ow (A:AR) (sp:Sp):Prop where
 l:sp.st.length=A.n
 own:∀p,A.f p≠0->gf sp.st p≠0
 cl:∀p,A.f p=3->gf sp.st p=1
 le:∀p,gf sp.st p<=2
structure St (A B:AR) (sp sp':Sp):Prop where
 ga:GA B
 ow:Ow B sp'
 n:B.n=A.n
 tb:B.tb=A.tb
 room:B.room=A.room
 same:∀p,A.f p=0->B.f p=0->gf sp'.st p=gf sp.st p
 gone:∀p,A.f p≠0->B.f p=0->gf sp'.st p=0
 new:∀p,A.f p=0->B.f p≠0->gf sp.st p=0/\16<=p
theorem St.refl (h:GA A)(hw:Ow A sp):St A A sp sp:=⟨h,hw,rfl,rfl,rfl,λ_ _ _=>rfl,λp h1 h2=>(h1 h2).elim,λp h1 h2=>(h2 h1).elim⟩
theorem Ow.len {B C:AR}{sp sp':Sp}(h:Ow B sp)(k:Ow C sp')(e:C.n=B.n):sp'.st.length=sp.st.length:=by rw[h.l,k.l,e]
theorem St.trans {B C:AR}{sp' sp'':Sp}(h:St A B sp sp')(k:St B C sp' sp''):St A C sp sp'':=by
 refine⟨k.ga,k.ow,k.n.trans h.n,k.tb.trans h.tb,k.room.trans h.room,λp hA hC=>?_,λp hA hC=>?_,λp hA hC=>?_⟩
 ·by_cases hB:B.f p=0
  ·rw[k.same p hB hC,h.same p hA hB]
  ·rw[k.gone p hB hC,(h.new p hA hB).1]
 ·by_cases hB:B.f p=0
  ·rw[k.same p hB hC,h.gone p hA hB]
  ·exact k.gone p hB hC
 ·by_cases hB:B.f p=0
  ·have:=k.new p hB hC;rw[h.same p hA hB]at this;exact this
  ·exact h.new p hA hB
theorem Ow.kp {B:AR}(hw:Ow A sp)(h:Kp A B):Ow B sp:=⟨hw.l.trans h.n.symm,λp hp=>hw.own p λe=>hp ((h.z p).2 e),λp hp=>hw.cl p (h.t p hp),hw.le⟩
theorem St.kp {B:AR}(hg:GA B)(hw:Ow A sp)(h:Kp A B):St A B sp sp:=
 ⟨hg,hw.kp h,h.n,h.tb,h.room,λ_ _ _=>rfl,λp h1 h2=>(h1 ((h.z p).1 h2)).elim,λp h1 h2=>(h2 ((h.z p).2 h1)).elim⟩
theorem Ob.st {B:AR}(o:Ob A B)(hw:Ow A sp):St A B sp sp:=St.kp o.ga hw o.kp
theorem GA.grown (h:GA A){B:AR}{sp':Sp}{s size:Nat}(g:Grown A B sp sp' s size):GA B:=by
 have e:∀{j d tt},Cl B j d tt↔Cl A j d tt:=λ{j d tt}=>by unfold Cl;rw[g.tb,g.cen]
 exact⟨g.pg,by rw[g.tb];exact h.tb,by rw[g.cen,g.tb];exact h.lc,by rw[g.tra,g.tb];exact h.lt,λj d tt hj=>h.cen j d tt (e.1 hj),λj d tt hj=>h.one j d tt (e.1 hj),λj d tt hj p=>by rw[g.ow];exact h.ow j d tt (e.1 hj) p,
  λp=>by rw[g.ow,g.runs];exact h.ow41 p,λp=>by rw[g.ow,g.tb];exact h.owb p,by rw[g.runs];exact h.rpos,by rw[g.runs];exact h.rdis,by rw[g.tra];exact h.trn,λj d tt t hj ht=>h.trt j d tt t (e.1 hj) (by rw[←g.tra];exact ht),by rw[g.tb,g.tra];exact h.trb⟩
theorem Grown.st (h:GA A)(hw:Ow A sp){B:AR}{sp':Sp}{s size:Nat}(g:Grown A B sp sp' s size):St A B sp sp':=by
 have hin:∀p,B.f p≠A.f p->s<=p/\p<s+size:=λp hp=>by
  apply Classical.byContradiction;intro hn;exact hp (g.o p hn).1
 refine⟨h.grown g,⟨g.l.trans (hw.l.trans g.n.symm),λp hp=>?_,λp hp=>?_,λp=>?_⟩,g.n,g.tb,g.room,λp h1 h2=>?_,λp h1 h2=>?_,λp h1 h2=>?_⟩
 ·by_cases hi:s<=p/\p<s+size
  ·rw[(g.i p hi.1 hi.2).2];omega
  ·rw[(g.o p hi).2];rw[(g.o p hi).1]at hp;exact hw.own p hp
 ·by_cases hi:s<=p/\p<s+size
  ·rw[(g.i p hi.1 hi.2).2]
  ·rw[(g.o p hi).2];rw[(g.o p hi).1]at hp;exact hw.cl p hp
 ·by_cases hi:s<=p/\p<s+size
  ·rw[(g.i p hi.1 hi.2).2];omega
  ·rw[(g.o p hi).2];exact hw.le p
 ·refine(g.o p λhi=>?_).2;rw[(g.i p hi.1 hi.2).1]at h2;omega
 ·have:=hin p (by omega);rw[(g.i p this.1 this.2).1]at h2;omega
 ·have:=hin p (by omega);exact⟨g.un p this.1 this.2,by have:=g.s1;omega⟩
theorem WcR {n:Nat}{S:Nat->Bool}(hb:Bounded S n)(hn:n<=1024){j q m a:Nat}(hf:full S j q=true)(hm:m<=2^j)(ha:a<=2^j):YR n S m a≠none:=by
 intro h0;have hp:S (q*2^j)=true:=Yh.1 hf _ (zFL _ (zv j));obtain⟨i,hi⟩:=KC hb hp;have hij:j<=i:=by
  apply Classical.byContradiction;intro hlt;exact Z2 hi hf rfl (zFL _ (zv j)) (by omega)
 have hfb:=Zd hb (Y8.1 hi).1;have hi10:i<11:=by
  apply Classical.byContradiction;intro hge;have:2^11<=2^i:=zAI (by omega) (by omega);omega
 have hpow:2^j<=2^i:=zAI (by omega) hij;have:=VL h0 i hi10 (by omega) (by omega);have hmem:=(Z3 hb (k:=i)).2 ⟨_,rfl,hi⟩;rw[this]at hmem;simp at hmem
theorem Hl (m:Nat):Qe m=16\/Qe m=32\/Qe m=64:=by
 unfold Qe;split
 ·exact .inl rfl
 ·split
  ·exact .inr (.inl rfl)
  ·exact .inr (.inr rfl)
theorem WfG {m:Nat}(h:m<=64):m<=Qe m:=by
 unfold Qe;split
 ·omega
 ·split<;>omega
theorem GE (h:GA A)(hw:Ow A sp){m a no:Nat}(h1:1<=m)(h2:m<=64)(ha:1<=a/\a<=16) :
 (getA A sp m a no=(none,A,sp)/\YR A.n A.S m a=none/\growStart sp (Qe (max m a))=none) ∨
 ∃x A1 sp1,getA A sp m a no=(some x,useA A1 x m no,sp1)/\YR A1.n A1.S m a=some x/\(A1=A/\sp1=sp\/YR A.n A.S m a=none/\∃s,growStart sp (Qe (max m a))=some s/\Grown A A1 sp sp1 s (Qe (max m a))):=by
 cases ht:YR A.n A.S m a with
 | some x=>exact .inr ⟨x,A,sp,by unfold getA;rw[ht],ht,.inl ⟨rfl,rfl⟩⟩
 | none=>
  cases hg:VE A sp (Qe (max m a))with
  | none=>
   refine .inl ⟨by unfold getA;rw[ht,hg],rfl,?_⟩;unfold VE at hg;split at hg
   ·assumption
   ·cases hg
  | some r=>
   obtain⟨A1,sp1⟩:=r;obtain⟨s,hs,g⟩:=Wg8 h.pg hw.l (λp hp=>Classical.byContradiction λhn=>hw.own p hn hp) (Hl _) hg;have hne:YR A1.n A1.S m a≠none:=by
    have hle:=WfG (m:=max m a) (by omega);obtain⟨_,_,⟨i,hi⟩,_⟩:=VG (by have:=Hl (max m a);omega) hs;have key:∃j,Qe (max m a)=2^j:=by
     rcases Hl (max m a)with e|e|e
     ·exact⟨4,e⟩
     ·exact⟨5,e⟩
     ·exact⟨6,e⟩
    obtain⟨j,hj⟩:=key;refine WcR g.pg.bnd g.pg.n2 (j:=j) (q:=i) (Yh.2 λp hp=>?_) (by omega) (by omega);rw[g.pg.fr];rw[Zv,←hj,←hi]at hp;rw[(g.i p hp.1 hp.2).1];omega
   obtain⟨x,hx⟩:=Option.ne_none_iff_exists'.1 hne;exact .inr ⟨x,A1,sp1,by unfold getA;rw[ht,hg];simp only;rw[hx],hx,.inr ⟨rfl,s,hs,g⟩⟩
theorem Wbu (h:PG A){m a x:Nat}(hx:YR A.n A.S m a=some x):∀p,x<=p->p<x+m->A.S p=true:=λp p1 p2=>(take_in h.bnd hx).2 p p1 p2
theorem WhV (h:PG A){m a x:Nat}(h1:1<=m)(h4:m<=4)(hx:YR A.n A.S m a=some x):x/16=(x+m-1)/16:=by
 obtain⟨j,_,hm,_,hh,_⟩:=KH hx;obtain⟨q,rfl,hc⟩:=(Z3 h.bnd).1 (List.mem_of_head? hh)
 match j,hm with
 | 0,hm=>
  have:m=1:=by omega
  subst this;rfl
 | 1,hm=>
  have:m<=2:=by omega
  simp only[Nat.pow_one]at *;omega
 | j+2,hm=>
  have e:2^(j+2)=4*2^j:=by rw[Nat.pow_add];omega
  rw[e,←zDY,Nat.mul_comm q 4,zDY];generalize q*2^j=z;omega
theorem Wgm (h:PG A){a m no:Nat}(h1:1<=m)(hn:no≠0)(hS:∀p,a<=p->p<a+m->A.S p=true):Kp A (useA A a m no):=by
 obtain⟨o,hi,hpg,hz⟩:=Wcv h h1 hn hS;refine⟨rfl,rfl,rfl,hz,λp hp=>?_⟩;by_cases hin:a<=p/\p<a+m
 ·rw[(hi p hin.1 hin.2).1]at hp;omega
 ·rw[o.f p hin]at hp;exact hp
theorem GA.addSpan (h:GA A)(hk:Cl A k c ss){x:Nat}(hS:∀p,x<=p->p<x+c.pages->A.S p=true)(h1:x/16=(x+c.pages-1)/16) :
 GA {useA A x c.pages (k+1)with cen:=(useA A x c.pages (k+1)).cen.set k (addS c ss x)}/\(∀s∈ss,s.st+c.pages<=x\/x+c.pages<=s.st):=by
 have hC:=h.cen k c ss hk;have hpg:=hC.pg;have hkl:=hk.lt;have htb:=h.tb;obtain⟨o,hi,pg,hz⟩:=Wcv h.pg hpg (no:=k+1) (by omega) hS;have hA:∀p,x<=p->p<x+c.pages->A.ow p=0:=λp p1 p2=>by
  have h2:=(h.pg.fr p).1 (hS p p1 p2);apply Classical.byContradiction;intro hne;have:=(h.pg.us p).2 hne;omega
 have hd:∀s∈ss,s.st+c.pages<=x\/x+c.pages<=s.st:=λs hs=>by
  apply Classical.byContradiction;intro hn;have h2:=hA (max x s.st) (by omega) (by omega);have:=(h.used hk hs (p:=max x s.st) (by omega) (by omega)).2;omega
 refine⟨?_,hd⟩;have hk':Cl (useA A x c.pages (k+1)) k c ss:=hk;refine⟨pg.same rfl rfl rfl rfl,h.tb,by show(A.cen.set k _).length=_;simp[h.lc];rfl,h.lt,λj d tt hj=>?_,λj d tt hj s hs=>?_,λj d tt hj p=>?_,λp=>?_,λp=>?_,h.rpos,h.rdis,h.trn,λj d tt t hj ht=>?_,h.trb⟩
 ·rcases Vo hk' hj with⟨rfl,rfl,rfl⟩|⟨hne,hj⟩
  ·exact Wgy hC hd
  ·exact h.cen j d tt hj
 ·rcases Vo hk' hj with⟨rfl,rfl,rfl⟩|⟨hne,hj⟩
  ·rcases Kj.1 hs with rfl|hs
   ·exact h1
   ·exact h.one _ _ _ hk s hs
  ·exact h.one j d tt hj s hs
 ·show(useA A x c.pages (k+1)).ow p=j+1↔_;by_cases hp:x<=p/\p<x+c.pages
  ·rw[(hi p hp.1 hp.2).2];rcases Vo hk' hj with⟨rfl,rfl,rfl⟩|⟨hne,hj⟩
   ·exact⟨λ_=>⟨_,Kj.2 (.inl rfl),hp.1,hp.2⟩,λ_=>rfl⟩
   ·rw[←h.ow j d tt hj p,hA p hp.1 hp.2];omega
  ·rw[o.ow p hp];rcases Vo hk' hj with⟨rfl,rfl,rfl⟩|⟨hne,hj⟩
   ·rw[h.ow _ _ _ hk p];constructor
    ·rintro⟨s,hs,h3⟩;exact⟨s,Kj.2 (.inr hs),h3⟩
    ·rintro⟨s,hs,h3⟩;rcases Kj.1 hs with rfl|hs
     ·exact(hp h3).elim
     ·exact⟨s,hs,h3⟩
   ·exact h.ow j d tt hj p
 ·show(useA A x c.pages (k+1)).ow p=41↔inR A.runs p;by_cases hp:x<=p/\p<x+c.pages
  ·rw[(hi p hp.1 hp.2).2,←h.ow41,hA p hp.1 hp.2];omega
  ·rw[o.ow p hp];exact h.ow41 p
 ·show(useA A x c.pages (k+1)).ow p=41\/(useA A x c.pages (k+1)).ow p<=A.tb.length;by_cases hp:x<=p/\p<x+c.pages
  ·rw[(hi p hp.1 hp.2).2];omega
  ·rw[o.ow p hp];exact h.owb p
 ·rcases Vo hk' hj with⟨rfl,rfl,rfl⟩|⟨hne,hj⟩
  ·intro y hy;exact(Wf0 hC hd).2 (h.trt _ _ _ t hk ht y hy)
  ·exact h.trt j d tt t hj ht
theorem GA.addRun (h:GA A){x m:Nat}(hm:1<=m)(hS:∀p,x<=p->p<x+m->A.S p=true):GA {useA A x m 41 with runs:=A.runs++[(x,m)]}:=by
 have htb:=h.tb;obtain⟨o,hi,pg,hz⟩:=Wcv h.pg hm (no:=41) (by omega) hS;have hA:∀p,x<=p->p<x+m->A.ow p=0:=λp p1 p2=>by
  have h2:=(h.pg.fr p).1 (hS p p1 p2);apply Classical.byContradiction;intro hne;have:=(h.pg.us p).2 hne;omega
 refine⟨pg.same rfl rfl rfl rfl,h.tb,h.lc,h.lt,h.cen,h.one,λj d tt hj p=>?_,λp=>?_,λp=>?_,λr hr=>?_,?_,h.trn,h.trt,h.trb⟩
 ·have hj:Cl A j d tt:=hj;have:=hj.lt;show(useA A x m 41).ow p=j+1↔_;by_cases hp:x<=p/\p<x+m
  ·rw[(hi p hp.1 hp.2).2,←h.ow j d tt hj p,hA p hp.1 hp.2];omega
  ·rw[o.ow p hp];exact h.ow j d tt hj p
 ·show(useA A x m 41).ow p=41↔inR (A.runs++[(x,m)]) p;by_cases hp:x<=p/\p<x+m
  ·rw[(hi p hp.1 hp.2).2];exact⟨λ_=>⟨(x,m),by simp,hp⟩,λ_=>rfl⟩
  ·rw[o.ow p hp,h.ow41];constructor
   ·rintro⟨r,hr,h3⟩;exact⟨r,by simp[hr],h3⟩
   ·rintro⟨r,hr,h3⟩;rcases zM.1 hr with hr|hr
    ·exact⟨r,hr,h3⟩
    ·simp only[zR]at hr;subst hr;exact(hp h3).elim
 ·show(useA A x m 41).ow p=41\/(useA A x m 41).ow p<=A.tb.length;by_cases hp:x<=p/\p<x+m
  ·rw[(hi p hp.1 hp.2).2];omega
  ·rw[o.ow p hp];exact h.owb p
 ·rcases zM.1 hr with hr|hr
  ·exact h.rpos r hr
  ·simp only[zR]at hr;subst hr;exact hm
 ·refine zBR.2 ⟨h.rdis,by simp,λr hr s hs=>?_⟩;simp only[zR]at hs;subst hs;apply Classical.byContradiction;intro hn;simp only at hn;have:=h.rpos r hr;have h2:=hA (max x r.1) (by omega) (by omega);have:=(h.usedR hr (p:=max x r.1) (by omega) (by omega)).2;omega
theorem Wf9 {l:List (Nat×Nat)}{x m:Nat}(h:∀r∈l,r.1≠x):takeAS.mset2 l x m=l++[(x,m)]:=by
 unfold takeAS.mset2;rw[zA];simp only[zl,zS,not_exists,not_and];exact h
theorem Gh (h:GA A)(hw:Ow A sp)(k:Int) :
 ((growS A sp k=(A,sp))/\QR A sp k≠0) ∨
 ∃(j:Nat) (c:Cls) (ss:List SpA) (x:Nat) (A1:AR) (sp1:Sp),k=j/\Cl A j c ss/\Cl A1 j c ss/\QR A sp k=0/\growS A sp k=({useA A1 x c.pages (j+1)with cen:=(useA A1 x c.pages (j+1)).cen.set j (addS c ss x)},sp1) ∧
  St A A1 sp sp1/\A1.runs=A.runs/\A1.tra=A.tra/\A1.cen=A.cen/\YR A1.n A1.S c.pages 1=some x/\(∀s∈ss,s.st+c.pages<=x\/x+c.pages<=s.st)/\St A (growS A sp k).1 sp (growS A sp k).2:=by
 by_cases hck:A.ck k=true
 ·obtain⟨j,rfl,hj⟩:=V7.1 hck;obtain⟨c,ss,t,hk,ht⟩:=h.cl hj;have hC:=h.cen j c ss hk;have hok:=hC.ok;unfold Cls.ok at hok;have hkl:=hk.lt;rcases GE h hw (m:=c.pages) (a:=1) (no:=j+1) (by omega) (by omega) (by omega)with⟨hg,_⟩|⟨x,A1,sp1,hg,htk,hor⟩
  ·left;have eE:QR A sp (j:Int)=6:=by unfold QR;rw[hck,zB rfl,iTn,hk.1,hk.2];simp only;rw[hg]
   have eS:growS A sp (j:Int)=(A,sp):=by unfold growS;rw[hck,zB rfl,iTn,hk.1,hk.2];simp only;rw[hg]
   rw[eS,eE];exact⟨rfl,by simp⟩
  ·right;have eE:QR A sp (j:Int)=UR c ss x:=by unfold QR;rw[hck,zB rfl,iTn,hk.1,hk.2];simp only;rw[hg]
   have g1:GA A1:=by
    rcases hor with⟨rfl,rfl⟩|⟨_,s,_,g⟩
    ·exact h
    ·exact h.grown g
   have hst:St A A1 sp sp1:=by
    rcases hor with⟨rfl,rfl⟩|⟨_,s,_,g⟩
    ·exact St.refl h hw
    ·exact g.st h hw
   have hfr:A1.runs=A.runs/\A1.tra=A.tra/\A1.cen=A.cen:=by
    rcases hor with⟨rfl,rfl⟩|⟨_,s,_,g⟩
    ·exact⟨rfl,rfl,rfl⟩
    ·exact⟨g.runs,g.tra,g.cen⟩
   have hk1:Cl A1 j c ss:=⟨by rw[hst.tb];exact hk.1,by rw[hfr.2.2];exact hk.2⟩;have hS:=Wbu g1.pg htk;obtain⟨g2,hd⟩:=g1.addSpan hk1 hS (WhV g1.pg (by omega) (by omega) htk);have e0:=Wic hd;have eS':growS A sp (j:Int)=({useA A1 x c.pages (j+1)with cen:=(useA A1 x c.pages (j+1)).cen.set j (addS c ss x)},sp1):=by
    unfold growS;rw[hck,zB rfl,iTn,hk.1,hk.2];simp only;rw[hg];simp only;rw[zB e0]
   refine⟨j,c,ss,x,A1,sp1,rfl,hk,hk1,by rw[eE];exact e0,eS',hst,hfr.1,hfr.2.1,hfr.2.2,htk,hd,?_⟩;rw[eS'];have kp:=Wgm g1.pg (no:=j+1) (by omega) (by omega) hS;exact hst.trans (St.kp g2 hst.ow (kp.trans (Kp.pages rfl rfl rfl rfl)))
 ·left;have hck':A.ck k=false:=by simpa using hck
  unfold growS QR;rw[hck'];exact⟨rfl,by simp⟩
theorem WhM (h:GA A)(hw:Ow A sp)(k:Int):St A (growS A sp k).1 sp (growS A sp k).2/\(growS A sp k).1.runs=A.runs/\(growS A sp k).1.tra=A.tra/\(∀j y,TkA (growS A sp k).1 j y↔TkA A j y)/\(QR A sp k≠0->growS A sp k=(A,sp)):=by
 rcases Gh h hw k with⟨e,_⟩|⟨j,c,ss,x,A1,sp1,rfl,hk,hk1,hE,e,hst,r1,r2,r3,_,hd,hS⟩
 ·rw[e];exact⟨St.refl h hw,rfl,rfl,λ_ _=>Iff.rfl,λ_=>rfl⟩
 ·refine⟨hS,by rw[e];exact r1,by rw[e];exact r2,λi y=>?_,λhn=>(hn hE).elim⟩;rw[e];have hk2:Cl (useA A1 x c.pages (j+1)) j c ss:=hk1;rw[Wao hk2,Wf0 (h.cen j c ss hk) hd];have e2:TkA (useA A1 x c.pages (j+1)) i y↔TkA A i y:=by
   have:(useA A1 x c.pages (j+1)).tb=A.tb/\(useA A1 x c.pages (j+1)).cen=A.cen:=⟨hst.tb,r3⟩;unfold TkA Cl;rw[this.1,this.2]
  rw[e2];by_cases hij:i=j
  ·subst hij;rw[Q0 hk];exact⟨λhx=>by rcases hx with⟨_,hx⟩|⟨hx,_⟩;exact hx;exact(hx rfl).elim,λhx=>.inl ⟨rfl,hx⟩⟩
  ·exact⟨λhx=>by rcases hx with⟨hx,_⟩|⟨_,hx⟩;exact(hij hx).elim;exact hx,λhx=>.inr ⟨hij,hx⟩⟩
theorem Wcd {m a:Int}(h:Qo m a=true):∃x y:Nat,m=x/\a=y/\1<=x/\x<=64/\(y=1\/y=2\/y=4\/y=8\/y=16):=by
 unfold Qo at h;simp only[zF,zN,zBH,zS]at h;exact⟨m.toNat,a.toNat,by omega,by omega,by omega,by omega,by omega⟩
theorem WbO (h:GA A)(hw:Ow A sp)(m a:Int) :
 (takeAS A sp m a=(A,sp)/\ZO A sp m a≠0/\(Qo m a=true->ZO A sp m a=6/\YR A.n A.S m.toNat a.toNat=none/\growStart sp (Qe (max m.toNat a.toNat))=none)) ∨
 ∃(x:Nat) (A1:AR) (sp1:Sp),Qo m a=true/\ZO A sp m a=0/\Zt A sp m a=x/\takeAS A sp m a=({useA A1 x m.toNat 41 with runs:=A.runs++[(x,m.toNat)]},sp1) ∧
  YR A1.n A1.S m.toNat a.toNat=some x/\(A1=A/\sp1=sp\/YR A.n A.S m.toNat a.toNat=none/\∃s,growStart sp (Qe (max m.toNat a.toNat))=some s/\Grown A A1 sp sp1 s (Qe (max m.toNat a.toNat))) ∧
  St A (takeAS A sp m a).1 sp (takeAS A sp m a).2/\(takeAS A sp m a).1.tra=A.tra/\(∀j y,TkA (takeAS A sp m a).1 j y↔TkA A j y):=by
 by_cases hp:Qo m a=true
 ·obtain⟨m',a',rfl,rfl,h1,h2,h3⟩:=Wcd hp;have eE:ZO A sp (m':Int) (a':Int)=if(getA A sp m' a' 41).1.isSome then 0 else 6:=by unfold ZO;rw[zB hp,iTn,iTn]
  have eV:Zt A sp (m':Int) (a':Int)=(getA A sp m' a' 41).1.getD 0:=by unfold Zt;rw[zB hp,iTn,iTn]
  rcases GE h hw (m:=m') (a:=a') (no:=41) h1 h2 (by omega)with⟨hg,hn1,hn2⟩|⟨x,A1,sp1,hg,htk,hor⟩
  ·left;have eS:takeAS A sp (m':Int) (a':Int)=(A,sp):=by unfold takeAS;rw[zB hp,iTn,iTn,hg]
   rw[eS,eE,hg,iTn,iTn];exact⟨rfl,by simp,λ_=>⟨rfl,hn1,hn2⟩⟩
  ·right;have g1:GA A1:=by
    rcases hor with⟨rfl,rfl⟩|⟨_,s,_,g⟩
    ·exact h
    ·exact h.grown g
   have hst:St A A1 sp sp1:=by
    rcases hor with⟨rfl,rfl⟩|⟨_,s,_,g⟩
    ·exact St.refl h hw
    ·exact g.st h hw
   have hfr:A1.runs=A.runs/\A1.tra=A.tra/\A1.cen=A.cen:=by
    rcases hor with⟨rfl,rfl⟩|⟨_,s,_,g⟩
    ·exact⟨rfl,rfl,rfl⟩
    ·exact⟨g.runs,g.tra,g.cen⟩
   have hS:=Wbu g1.pg htk;have hnew:∀r∈A.runs,r.1≠x:=λr hr e=>by
    have hr1:r∈A1.runs:=by rw[hfr.1];exact hr
    have:=g1.rpos r hr1;have h5:=(g1.usedR hr1 (p:=x) (by omega) (by omega)).1;have h6:=(g1.pg.fr x).1 (hS x (by omega) (by omega));omega
   have eS':takeAS A sp (m':Int) (a':Int)=({useA A1 x m' 41 with runs:=A.runs++[(x,m')]},sp1):=by
    unfold takeAS;rw[zB hp,iTn,iTn,hg];show({useA A1 x m' 41 with runs:=takeAS.mset2 A1.runs x m'},sp1)=_;rw[hfr.1,Wf9 hnew]
   have g2:=g1.addRun (by omega) hS;rw[hfr.1]at g2;have kp:=Wgm g1.pg (no:=41) (by omega) (by omega) hS;refine⟨x,A1,sp1,hp,by rw[eE,hg];rfl,by rw[eV,hg];rfl,by rw[iTn];exact eS',by rw[iTn,iTn];exact htk,by rw[iTn,iTn];exact hor,?_,by rw[eS'];exact hfr.2.1,λj y=>?_⟩
   ·rw[eS'];exact hst.trans (St.kp g2 hst.ow (kp.trans (Kp.pages rfl rfl rfl rfl)))
   ·rw[eS'];have e1:({useA A1 x m' 41 with runs:=A.runs++[(x,m')]}:AR).tb=A.tb:=hst.tb;have e2:({useA A1 x m' 41 with runs:=A.runs++[(x,m')]}:AR).cen=A.cen:=hfr.2.2;unfold TkA Cl;rw[e1,e2]
 ·left;have hp':Qo m a=false:=by simpa using hp
  unfold takeAS ZO;rw[hp'];exact⟨rfl,by simp,λhx=>by cases hx⟩
theorem WdV {x:Int}{r:Nat×Nat}(h:Gy A x=some r):r∈A.runs/\x=(r.1:Int):=by
 unfold Gy at h;exact⟨zCW h,by have:=zCV h;simpa using Eq.symm (by simpa using this)⟩
theorem WfC (h:GA A)(x:Int):(Kp A (ZT A x)/\GA (ZT A x))/\(ZT A x).tra=A.tra/\(∀j y,TkA (ZT A x) j y↔TkA A j y)/\(QS A x≠0->ZT A x=A) ∧
 (QS A x=0->∃r∈A.runs,x=(r.1:Int)/\(ZT A x).runs=A.runs.filter λq=>!(q==r)):=by
 cases hr:Gy A x with
 | none=>
  have e:ZT A x=A:=by unfold ZT;rw[hr]
  have eE:QS A x=8:=by unfold QS;rw[hr];rfl
  rw[e,eE];exact⟨⟨Kp.refl A,h⟩,rfl,λ_ _=>Iff.rfl,λ_=>rfl,λhx=>by cases hx⟩
 | some r=>
  obtain⟨hrm,hx⟩:=WdV hr;have hpos:=h.rpos r hrm;have hfil:A.runs.filter (λq=>!((q.1:Int)==x))=A.runs.filter λq=>!(q==r):=by
   apply zET;intro q hq;have:((q.1:Int)==x)=(q==r):=by
    rw[zBF];simp only[zS];constructor
    ·intro e;have hq1:=h.rpos q hq;exact h.runs_uniq hq hrm (x:=q.1) (by omega) (by omega) (by omega) (by omega)
    ·rintro rfl;exact hx.symm
   rw[this]
  have e:ZT A x=KO {A with runs:=A.runs.filter λq=>!(q==r)} r:=by unfold ZT;rw[hr];simp only;rw[hfil]
  have eE:QS A x=0:=by unfold QS;rw[hr];rfl
  obtain⟨a,m⟩:=r;obtain⟨o,hi,pg,hz⟩:=Wdb (A:={A with runs:=A.runs.filter λq=>!(q==(a,m))}) (h.pg.same rfl rfl rfl rfl) hpos (λp p1 p2=>(h.usedR hrm p1 p2).1);have own:∀p,a<=p->p<a+m->A.ow p=41:=λp p1 p2=>(h.usedR hrm p1 p2).2;have htb:=h.tb;rw[e,eE];refine⟨⟨⟨rfl,rfl,rfl,hz,λp hp=>?_⟩,?_⟩,rfl,λ_ _=>Iff.rfl,λhx=>(hx rfl).elim,λ_=>⟨_,hrm,hx,rfl⟩⟩
  ·by_cases hin:a<=p/\p<a+m
   ·rw[(hi p hin.1 hin.2).1]at hp;omega
   ·rw[o.f p hin]at hp;exact hp
  ·refine⟨pg,h.tb,h.lc,h.lt,h.cen,h.one,λj d tt hj p=>?_,λp=>?_,λp=>?_,λq hq=>h.rpos q (zH.1 hq).1,h.rdis.filter _,h.trn,h.trt,h.trb⟩
   ·have hj:Cl A j d tt:=hj;have:=hj.lt;by_cases hin:a<=p/\p<a+m
    ·rw[(hi p hin.1 hin.2).2,←h.ow j d tt hj p,own p hin.1 hin.2];omega
    ·rw[o.ow p hin];exact h.ow j d tt hj p
   ·show _↔inR (A.runs.filter λq=>!(q==(a,m))) p;by_cases hin:a<=p/\p<a+m
    ·rw[(hi p hin.1 hin.2).2];constructor
     ·intro hx;omega
     ·rintro⟨q,hq,q1,q2⟩;have hq':=zH.1 hq;have:=h.runs_uniq hq'.1 hrm q1 q2 hin.1 hin.2;subst this;simp at hq'
    ·rw[o.ow p hin];show A.ow p=41↔_;rw[h.ow41];constructor
     ·rintro⟨q,hq,q1⟩;refine⟨q,zH.2 ⟨hq,?_⟩,q1⟩;have:q≠(a,m):=by rintro rfl;exact hin q1
      simpa using this
     ·rintro⟨q,hq,q1⟩;exact⟨q,(zH.1 hq).1,q1⟩
   ·by_cases hin:a<=p/\p<a+m
    ·rw[(hi p hin.1 hin.2).2];omega
    ·rw[o.ow p hin];exact h.owb p
theorem Wcq (k:Nat):∀(outs:List (List Int)) {A:AR},GA A->outs.flatten.Nodup->(∀x∈outs.flatten,TkA A k x/\¬InT A k x) →
 Ob A (outs.foldl (λA' xs=>Zb A' (k:Int) xs) A)/\(outs.foldl (λA' xs=>Zb A' (k:Int) xs) A).tra=A.tra/\∀j y,TkA (outs.foldl (λA' xs=>Zb A' (k:Int) xs) A) j y↔TkA A j y/\¬(j=k/\y∈outs.flatten)
 | [],A,h,_,_=>⟨⟨h,Kp.refl A,rfl⟩,rfl,by simp⟩
 | xs::outs,A,h,hn,ht=>by
  rw[zDC]at hn ht;have hn':=zAY.1 hn;have htx:∀x∈xs,TkA A k x/\¬InT A k x:=λx hx=>ht x (zAM _ hx);rw[zBV];cases xs with
  | nil=>
   have hE:Zb A (k:Int) []=A\/Z6 A (k:Int) []=0:=by
    by_cases h0:Z6 A (k:Int) []=0
    ·exact .inr h0
    ·exact .inl (by unfold Zb;rw[zA h0])
   obtain⟨o,e,t,_⟩:=WaK h (k:=(k:Int)) (xs:=[]) (λ_=>by simp);have t':∀j y,TkA (Zb A (k:Int) []) j y↔TkA A j y:=λj y=>by
    rcases hE with hE|hE
    ·rw[hE]
    ·rw[t hE];simp
   have hin:∀j y,InT (Zb A (k:Int) []) j y↔InT A j y:=λj y=>by unfold InT;rw[e]
   obtain⟨o2,e2,t2⟩:=Wcq k outs o.ga hn'.2.1 λx hx=>by rw[t',hin];exact ht x (zBL _ hx)
   exact⟨⟨o2.ga,o.kp.trans o2.kp,o2.runs.trans o.runs⟩,e2.trans e,λj y=>by rw[t2,t'];simp⟩
  | cons x0 xs=>
   obtain⟨c,ss,hk,_⟩:=(htx x0 (by simp)).1;have h0:Z6 A (k:Int) (x0::xs)=0:=by
    rw[UC h hk];exact Wff ⟨λx hx=>(Q0 hk).1 (htx x hx).1,hn'.1⟩
   obtain⟨o,e,t,_⟩:=WaK h (k:=(k:Int)) (xs:=x0::xs) (λ_ x hx=>by rw[iTn];exact(htx x hx).2);have t':=t h0;have hin:∀j y,InT (Zb A (k:Int) (x0::xs)) j y↔InT A j y:=λj y=>by unfold InT;rw[e]
   obtain⟨o2,e2,t2⟩:=Wcq k outs o.ga hn'.2.1 λx hx=>by
    rw[t',hin];have:=ht x (zBL _ hx);exact⟨⟨this.1,λhy=>hn'.2.2 x hy.2 x hx rfl⟩,this.2⟩
   refine⟨⟨o2.ga,o.kp.trans o2.kp,o2.runs.trans o.runs⟩,e2.trans e,λj y=>?_⟩;rw[t2,t',iTn,zDC,zM];constructor
   ·rintro⟨⟨a,b⟩,d⟩;refine⟨a,λ⟨hj,hy⟩=>?_⟩;rcases hy with hy|hy
    ·exact b ⟨hj,hy⟩
    ·exact d ⟨hj,hy⟩
   ·rintro⟨a,b⟩;exact⟨⟨a,λ⟨hj,hy⟩=>b ⟨hj,.inl hy⟩⟩,λ⟨hj,hy⟩=>b ⟨hj,.inr hy⟩⟩
structure Tck (A B:AR):Prop where
 ob:Ob A B
 sub:∀j y,InT B j y->InT A j y
 tk:∀j y,TkA B j y↔TkA A j y/\(InT A j y->InT B j y)
theorem Tck.trans {B C:AR}(h:Tck A B)(k:Tck B C):Tck A C:=
 ⟨⟨k.ob.ga,h.ob.kp.trans k.ob.kp,k.ob.runs.trans h.ob.runs⟩,λj y hx=>h.sub j y (k.sub j y hx),λj y=>by
  rw[k.tk,h.tk];exact⟨λ⟨⟨a,b⟩,d⟩=>⟨a,λe=>d (b e)⟩,λ⟨a,b⟩=>⟨⟨a,λe=>k.sub j y (b e)⟩,λe=>b (h.sub j y e)⟩⟩⟩
theorem We3 (h:GA A)(hk:k<A.tb.length):Tck A (Wen A k):=by
 obtain⟨c,ss,t,hc,ht⟩:=h.cl hk;have hkl:k<A.tra.length:=by rw[h.lt];exact hk
 have e:Wen A k=t.out.foldl (λA' xs=>Zb A' (k:Int) xs) {A with tra:=A.tra.set k t.tick}:=by unfold Wen;rw[ht]
 have hsp:t.bs=t.out++t.tick.bs:=(zBG ((t.low+1)/2) t.bs).symm;have hfl:t.bs.flatten=t.out.flatten++t.tick.bs.flatten:=by conv=>lhs;rw[hsp];rw[zFS]
 have hnd:=h.trn k t ht;rw[hfl]at hnd;have hnd':=zAY.1 hnd;have htk:∀x∈t.bs.flatten,TkA A k x:=λx hx=>(Q0 hc).2 (h.trt k c ss t hc ht x hx);have g1:GA {A with tra:=A.tra.set k t.tick}:=h.setTra hnd'.2.1 (λx hx=>htk x (by rw[hfl];exact zBL _ hx)) λc' hc' xs hxs=>h.trb k c' t hc' ht xs (t.tick_sub xs hxs);obtain⟨o,e2,t2⟩:=Wcq k t.out g1 hnd'.1 λx hx=>by
  refine⟨htk x (by rw[hfl];exact zAM _ hx),?_⟩;rw[WaD hkl];rintro(⟨_,hy⟩|⟨hy,_⟩)
  ·exact hnd'.2.2 x hx x hy rfl
  ·exact hy rfl
 rw[←e]at o e2 t2;have hin:∀j y,InT (Wen A k) j y↔(j=k/\y∈t.tick.bs.flatten)\/(j≠k/\InT A j y):=λj y=>by
  rw[←WaD hkl];unfold InT;rw[e2]
 refine⟨⟨o.ga,(Kp.pages rfl rfl rfl rfl:Kp A {A with tra:=A.tra.set k t.tick}).trans o.kp,o.runs⟩,λj y hx=>?_,λj y=>?_⟩
 ·rcases(hin j y).1 hx with⟨rfl,hy⟩|⟨_,hy⟩
  ·rw[UF ht,hfl];exact zBL _ hy
  ·exact hy
 ·rw[t2,hin];show TkA A j y/\_↔_;by_cases hjk:j=k
  ·subst hjk;rw[UF ht,hfl,zM];constructor
   ·rintro⟨a,b⟩;refine⟨a,λhx=>?_⟩;rcases hx with hx|hx
    ·exact(b ⟨rfl,hx⟩).elim
    ·exact .inl ⟨rfl,hx⟩
   ·rintro⟨a,b⟩;refine⟨a,λ⟨_,hx⟩=>?_⟩;rcases b (.inl hx)with⟨_,hy⟩|⟨hy,_⟩
    ·exact hnd'.2.2 y hx y hy rfl
    ·exact hy rfl
  ·exact⟨λ⟨a,_⟩=>⟨a,λhx=>.inr ⟨hjk,hx⟩⟩,λ⟨a,_⟩=>⟨a,λ⟨hx,_⟩=>hjk hx⟩⟩
theorem Wdz (h:GA A):∀m,m<=A.tb.length->Tck A ((List.range m).foldl Wen A)
 | 0,_=>⟨⟨h,Kp.refl A,rfl⟩,λ_ _=>id,λ_ _=>⟨λa=>⟨a,id⟩,λa=>a.1⟩⟩
 | m+1,hm=>by
  have t:=Wdz h m (by omega);rw[zBD,zFG,zBV,List.foldl_nil];exact t.trans (We3 t.ob.ga (by rw[t.ob.kp.tb];omega))
theorem WhG (h:GA A):Tck A (Wbk A):=Wdz h _ (by rw[h.lt];exact zD _)
end Go.Ar
namespace Go.Ar
open Go.Bu (YT ZU YR Gw Q6 give take Qq QD Bounded)
variable {A:AR}{sp:Sp}{k:Nat}{c:Cls}{ss:List SpA}
theorem Wdf {st:List Nat}{a m v:Nat}(hl:a+m<=st.length):v∈(st.drop a).take m↔∃p,a<=p/\p<a+m/\gf st p=v:=by
 constructor
 ·intro hm;obtain⟨i,hi⟩:=zL hm;rw[zg]at hi;split at hi
  ·rename_i hlt;rw[zu]at hi;refine⟨a+i,by omega,by omega,?_⟩;unfold gf;rw[zO,hi];rfl
  ·cases hi
 ·rintro⟨p,h1,h2,h3⟩;have hp:p<st.length:=by omega
  unfold gf at h3;rw[zO,gGe hp]at h3;refine zE (i:=p-a) ?_;rw[zg,zB (by omega),zu,show a+(p-a)=p by omega,gGe hp];exact congrArg some h3
end Go.Ar
namespace Go.Ar
structure Pc where
 k:Nat
 cls:Int
 addr:Nat
 size:Nat
 moved:Bool
 deriving DecidableEq
structure Wd where
 tb:List Cls
 sp:Sp
 ars:List AR
 held:List Pc
structure Act where
 kd:Int
 ar:Int
 cl:Int
 a:Int
 b:Int
 l:List Int
abbrev Key:=Nat×Int×Nat
def Pc.key (p:Pc):Key:=(p.k,p.cls,p.addr)
def isAt (k:Nat)(cls x:Int)(p:Pc):Bool:=p.k==k&&(p.cls==cls&&((p.addr:Int)==x && !p.moved))
def atW (held:List Pc)(k:Nat)(cls x:Int):Option Nat:=held.findIdx? (isAt k cls x)
def ownW (held:List Pc)(k:Nat)(cls:Int)(l:List Int):Bool:=l.all (λx=>(atW held k cls x).isSome)&&decide l.Nodup
def drop1 (k:Nat)(cls:Int)(held:List Pc)(x:Int):List Pc:=match atW held k cls x with
 | some i=>held.take i++held.drop (i+1)
 | none=>held
def Wge (held:List Pc)(k:Nat)(cls:Int)(l:List Int):List Pc:=l.foldl (drop1 k cls) held
def isOf (k:Nat)(cls:Int)(l:List Int)(p:Pc):Bool:=p.k==k&&(p.cls==cls&&l.contains (p.addr:Int))
def Uh (held:List Pc)(k:Nat)(cls:Int)(l:List Int)(m:Bool):List Pc:=held.map λp=>if isOf k cls l p then{p with moved:=m}else p
def WhT (us:List AR)(held:List Pc):List Pc:=held.filter λp=>!p.moved||(match us[p.k]? with
 | some A=>WfQ A (p.addr:Int)
 | none=>false)
def szOf (tb:List Cls)(k:Int):Nat:=((tb[k.toNat]?).map (·.size)).getD 0
def Wd.put (W:Wd)(k:Nat)(A:AR)(sp:Sp)(held:List Pc):Wd:={W with sp:=sp,ars:=W.ars.set k A,held:=held}
def Hd (A:AR)(p:Pc):Prop:=(p.cls = -1/\p.moved=false/\∃r∈A.runs,p.addr=r.1*256/\p.size=r.2*256) ∨
 ∃(j:Nat) (c:Cls),p.cls=j/\A.tb[j]?=some c/\p.size=c.size/\TkA A j (p.addr:Int)/\(p.moved=true↔InT A j (p.addr:Int))
structure WI (W:Wd):Prop where
 ga:∀(k:Nat) (A:AR),W.ars[k]?=some A->GA A
 ow:∀(k:Nat) (A:AR),W.ars[k]?=some A->Ow A W.sp
 tb:∀(k:Nat) (A:AR),W.ars[k]?=some A->A.tb=W.tb
 low:∀(k:Nat) (A:AR),W.ars[k]?=some A->∀p,p<16->A.f p=0
 own:∀p,gf W.sp.st p≠0->∃(k:Nat) (A:AR),W.ars[k]?=some A/\A.f p≠0
 one:∀p (k l:Nat) (A B:AR),W.ars[k]?=some A->W.ars[l]?=some B->A.f p≠0->B.f p≠0->k=l
 hk:(W.held.map Pc.key).Nodup
 hf:∀p∈W.held,∃A,W.ars[p.k]?=some A/\Hd A p
 ht:∀(k:Nat) (A:AR),W.ars[k]?=some A->∀(j:Nat) (y:Int),TkA A j y->∃p∈W.held,p.k=k/\p.cls=j/\(p.addr:Int)=y
 hr:∀(k:Nat) (A:AR),W.ars[k]?=some A->∀r∈A.runs,∃p∈W.held,p.k=k/\p.cls = -1/\p.addr=r.1*256
variable {W:Wd}{k:Nat}{A:AR}
theorem Q2 {α:Type}{l:List α}{k j:Nat}{x y:α}(h:(l.set k x)[j]?=some y):(j=k/\y=x/\k<l.length)\/(j≠k/\l[j]?=some y):=by
 by_cases hjk:j=k
 ·subst hjk;have hl:j<l.length:=by have:=(gSi.1 h).1;simpa using this
  rw[zK hl]at h;exact .inl ⟨rfl,(Option.some.inj h).symm,hl⟩
 ·rw[zf (Ne.symm hjk)]at h;exact .inr ⟨hjk,h⟩
theorem WI.unique (h:WI W){p q:Pc}(hp:p∈W.held)(hq:q∈W.held)(e:p.key=q.key):p=q:=by
 obtain⟨i,hi⟩:=zL hp;obtain⟨j,hj⟩:=zL hq;obtain⟨hi1,rfl⟩:=gSi.1 hi;obtain⟨hj1,rfl⟩:=gSi.1 hj;have:=zAF.1 h.hk;rcases zBO i j with hl|hl|hl
 ·exact(this i j (by simpa using hi1) (by simpa using hj1) hl (by simpa using e)).elim
 ·subst hl;rfl
 ·exact(this j i (by simpa using hj1) (by simpa using hi1) hl (by simpa using e.symm)).elim
theorem WI.step (h:WI W)(hk:W.ars[k]?=some A){B:AR}{sp':Sp}{held':List Pc}(s:St A B W.sp sp')(h1:(held'.map Pc.key).Nodup)(h2:∀p∈held',p.k=k->Hd B p)(h3:∀p,p.k≠k->(p∈held'↔p∈W.held))
 (h4:∀(j:Nat) (y:Int),TkA B j y->∃p∈held',p.k=k/\p.cls=j/\(p.addr:Int)=y) (h5:∀r∈B.runs,∃p∈held',p.k=k/\p.cls = -1/\p.addr=r.1*256):WI (W.put k B sp' held'):=by
 have hkl:=(gSi.1 hk).1;have self:(W.ars.set k B)[k]?=some B:=zK hkl;have ne:∀{j:Nat} {C:AR},j≠k->W.ars[j]?=some C->(W.ars.set k B)[j]?=some C:=λhj hC=>(zf (Ne.symm hj)).trans hC;have oth:∀{j:Nat} {C:AR},j≠k->W.ars[j]?=some C->∀p,C.f p≠0->A.f p=0/\B.f p=0/\gf sp'.st p=gf W.sp.st p:=by
  intro j C hj hC p hp;have hA:A.f p=0:=Classical.byContradiction λhn=>hj (h.one p j k C A hC hk hp hn);have hB:B.f p=0:=Classical.byContradiction λhn=>by
   have:=(s.new p hA hn).1;exact(h.ow j C hC).own p hp this
  exact⟨hA,hB,s.same p hA hB⟩
 refine⟨λj C hj=>?_,λj C hj=>?_,λj C hj=>?_,λj C hj p hp=>?_,λp hp=>?_,λp j l C D hj hl hC hD=>?_,h1,λp hp=>?_,λj C hj i y hy=>?_,λj C hj r hr=>?_⟩
 ·rcases Q2 hj with⟨rfl,rfl,_⟩|⟨_,hj⟩
  ·exact s.ga
  ·exact h.ga j C hj
 ·rcases Q2 hj with⟨rfl,rfl,_⟩|⟨hne,hj⟩
  ·exact s.ow
  ·have o:=h.ow j C hj;have oA:=h.ow k A hk;refine⟨?_,λp hp=>?_,λp hp=>?_,s.ow.le⟩
   ·show sp'.st.length=C.n;rw[s.ow.l,s.n,←oA.l,o.l]
   ·show gf sp'.st p≠0;rw[(oth hne hj p hp).2.2];exact o.own p hp
   ·show gf sp'.st p=1;rw[(oth hne hj p (by omega)).2.2];exact o.cl p hp
 ·rcases Q2 hj with⟨rfl,rfl,_⟩|⟨_,hj⟩
  ·exact s.tb.trans (h.tb _ A hk)
  ·exact h.tb j C hj
 ·rcases Q2 hj with⟨rfl,rfl,_⟩|⟨_,hj⟩
  ·apply Classical.byContradiction;intro hn;have:=s.new p (h.low _ A hk p hp) hn;omega
  ·exact h.low j C hj p hp
 ·have hp:gf sp'.st p≠0:=hp;by_cases hB:B.f p=0
  ·by_cases hA:A.f p=0
   ·rw[s.same p hA hB]at hp;obtain⟨j,C,hj,hC⟩:=h.own p hp;have hne:j≠k:=by
     rintro rfl;rw[hk]at hj;cases hj;exact hC hA
    exact⟨j,C,ne hne hj,hC⟩
   ·exact(hp (s.gone p hA hB)).elim
  ·exact⟨k,B,self,hB⟩
 ·rcases Q2 hj with⟨rfl,rfl,_⟩|⟨hne,hj'⟩
  ·rcases Q2 hl with⟨rfl,rfl,_⟩|⟨hne2,hl'⟩
   ·rfl
   ·exact(hC (oth hne2 hl' p hD).2.1).elim
  ·rcases Q2 hl with⟨rfl,rfl,_⟩|⟨hne2,hl'⟩
   ·exact(hD (oth hne hj' p hC).2.1).elim
   ·exact h.one p j l C D hj' hl' hC hD
 ·by_cases hpk:p.k=k
  ·exact⟨B,by rw[hpk];exact self,h2 p hp hpk⟩
  ·obtain⟨C,hC,hh⟩:=h.hf p ((h3 p hpk).1 hp);exact⟨C,ne hpk hC,hh⟩
 ·rcases Q2 hj with⟨rfl,rfl,_⟩|⟨hne,hj⟩
  ·exact h4 i y hy
  ·obtain⟨p,hp,e1,e2,e3⟩:=h.ht j C hj i y hy;exact⟨p,(h3 p (by rw[e1];exact hne)).2 hp,e1,e2,e3⟩
 ·rcases Q2 hj with⟨rfl,rfl,_⟩|⟨hne,hj⟩
  ·exact h5 r hr
  ·obtain⟨p,hp,e1,e2,e3⟩:=h.hr j C hj r hr;exact⟨p,(h3 p (by rw[e1];exact hne)).2 hp,e1,e2,e3⟩
theorem Hd.to {B:AR}{p:Pc}(h:Hd A p)(e1:B.tb=A.tb)(e2:B.runs=A.runs)(e3:∀j y,TkA A j y->TkA B j y)(e4:∀j y,InT B j y↔InT A j y):Hd B p:=by
 rcases h with⟨h1,h2,r,hr,h3⟩|⟨j,c,h1,h2,h3,h4,h5⟩
 ·exact .inl ⟨h1,h2,r,by rw[e2];exact hr,h3⟩
 ·exact .inr ⟨j,c,h1,by rw[e1];exact h2,h3,e3 _ _ h4,by rw[e4];exact h5⟩
theorem WI.hd (h:WI W)(hk:W.ars[k]?=some A){p:Pc}(hp:p∈W.held)(e:p.k=k):Hd A p:=by
 obtain⟨C,hC,hh⟩:=h.hf p hp;rw[e,hk]at hC;cases hC;exact hh
theorem WI.stepSame (h:WI W)(hk:W.ars[k]?=some A){B:AR}{sp':Sp}(s:St A B W.sp sp')(e2:B.runs=A.runs)(e3:∀j y,TkA B j y↔TkA A j y)(e4:B.tra=A.tra):WI (W.put k B sp' W.held):=
 h.step hk s h.hk (λp hp e=>(h.hd hk hp e).to s.tb e2 (λj y=>(e3 j y).2) λj y=>by unfold InT;rw[e4]) (λ_ _=>Iff.rfl) (λj y hy=>h.ht k A hk j y ((e3 j y).1 hy)) λr hr=>h.hr k A hk r (by rw[←e2];exact hr)
theorem WI.cls (h:WI W){p:Pc}(hp:p∈W.held){j:Nat}(e:p.cls=j)(hk:W.ars[p.k]?=some A):∃c,A.tb[j]?=some c/\p.size=c.size/\TkA A j (p.addr:Int)/\(p.moved=true↔InT A j (p.addr:Int)):=by
 rcases h.hd hk hp rfl with⟨h1,_⟩|⟨i,c,h1,h2,h3,h4,h5⟩
 ·omega
 ·obtain rfl:i=j:=by omega
  exact⟨c,h2,h3,h4,h5⟩
theorem WI.run (h:WI W){p:Pc}(hp:p∈W.held)(e:p.cls = -1)(hk:W.ars[p.k]?=some A):p.moved=false/\∃r∈A.runs,p.addr=r.1*256/\p.size=r.2*256:=by
 rcases h.hd hk hp rfl with⟨_,h2⟩|⟨i,c,h1,_⟩
 ·exact h2
 ·omega
theorem QJ {k:Nat}{cls x:Int}{p:Pc}:isAt k cls x p=true↔p.k=k/\p.cls=cls/\(p.addr:Int)=x/\p.moved=false:=by
 simp[isAt]
theorem Zr {k:Nat}{cls:Int}{l:List Int}{p:Pc}:isOf k cls l p=true↔p.k=k/\p.cls=cls/\(p.addr:Int)∈l:=by
 simp[isOf]
theorem Wia {held:List Pc}{k:Nat}{cls x:Int}{i:Nat}(h:atW held k cls x=some i):∃p,held[i]?=some p/\isAt k cls x p=true:=by
 obtain⟨hi,hp,_⟩:=zAU.1 h;exact⟨held[i],gGe hi,hp⟩
theorem Wk9 {held:List Pc}{k:Nat}{cls x:Int}{p:Pc}(hp:p∈held)(h:isAt k cls x p=true):(atW held k cls x).isSome=true:=by
 unfold atW;rw[List.findIdx?_isSome,zl];exact⟨p,hp,h⟩
theorem QI {held:List Pc}{k:Nat}{cls:Int}{l:List Int}:ownW held k cls l=true↔(∀x∈l,∃p∈held,isAt k cls x p=true)/\l.Nodup:=by
 unfold ownW;rw[zF,zw,zN];refine and_congr_left λ_=>forall_congr' λx=>imp_congr_right λhx=>?_;unfold atW;rw[List.findIdx?_isSome,zl]
theorem WbU {held:List Pc}(hn:(held.map Pc.key).Nodup){i:Nat}{p:Pc}(hi:held[i]?=some p):held.take i++held.drop (i+1)=held.filter λq=>!(q.key==p.key):=by
 induction held generalizing i with
 | nil=>simp at hi
 | cons q l ih=>
  rw[zI,zm]at hn;cases i with
  | zero=>
   simp only[zEK,Option.some.injEq]at hi;subst hi;have:l.filter (λr=>!(r.key==q.key))=l:=by
    rw[zBE];intro r hr;have:r.key≠q.key:=λe=>hn.1 (zC.2 ⟨r,hr,e⟩);simpa using this
   simp[this]
  | succ i=>
   have hi:l[i]?=some p:=by simpa using hi
   have hne:q.key≠p.key:=λe=>hn.1 (zC.2 ⟨p,zE hi,e.symm⟩);rw[zGD,zFD,zAV,ih hn.2 hi,zCR];have:(!(q.key==p.key))=true:=by simpa using hne
   rw[this];rfl
theorem KQ {held:List Pc}(hn:(held.map Pc.key).Nodup)(f:Pc->Bool):((held.filter f).map Pc.key).Nodup:=hn.sublist (List.filter_sublist.map _)
theorem Wdi {k:Nat}{cls:Int}:∀(l:List Int) {held:List Pc},(held.map Pc.key).Nodup->(∀x∈l,∃p∈held,isAt k cls x p=true)->l.Nodup->Wge held k cls l=held.filter λp=>!isOf k cls l p
 | [],held,_,_,_=>by
  have:∀p,isOf k cls [] p=false:=λp=>by simp[isOf]
  exact(zBE.2 λp _=>by rw[this];rfl).symm
 | x::l,held,hn,ho,hl=>by
  obtain⟨p,hp,hx⟩:=ho x (by simp);obtain⟨i,hi⟩:=zBP.1 (Wk9 hp hx);obtain⟨q,hq,hqx⟩:=Wia hi;have hl':=zm.1 hl;have e1:drop1 k cls held x=held.filter λr=>!(r.key==q.key):=by unfold drop1;rw[hi];exact WbU hn hq
  obtain⟨q1,q2,q3,q4⟩:=QJ.1 hqx;have ih:=Wdi l (held:=held.filter λr=>!(r.key==q.key)) (KQ hn _) (λy hy=>by
   obtain⟨r,hr,hry⟩:=ho y (by simp[hy]);refine⟨r,zH.2 ⟨hr,?_⟩,hry⟩;have:r.key≠q.key:=λe=>by
    have e3:r.addr=q.addr:=congrArg (λz:Key=>z.2.2) e;have:=(QJ.1 hry).2.2.1;have:y=x:=by omega
    subst this;exact hl'.1 hy
   simpa using this) hl'.2
  unfold Wge at ih ⊢;rw[zBV,e1,ih,zFT];apply zET;intro r hr;have e:(r.key==q.key)=(r.k==k&&(r.cls==cls&&(r.addr:Int)==x)):=by
   rw[zBF];simp only[Pc.key,zS,zF,Prod.mk.injEq];constructor
   ·rintro⟨a,b,c⟩;exact⟨by omega,by omega,by omega⟩
   ·rintro⟨a,b,c⟩;exact⟨by omega,by omega,by omega⟩
  rw[e];unfold isOf;rw[List.contains_cons];cases r.k==k<;>cases r.cls==cls<;>cases((r.addr:Int)==x)<;>cases l.contains (r.addr:Int)<;>rfl
theorem ZZ {held:List Pc}{k:Nat}{cls:Int}{l:List Int}{m:Bool}{p:Pc}:p∈Uh held k cls l m↔∃q∈held,p=if isOf k cls l q then{q with moved:=m}else q:=by
 unfold Uh;rw[zC];constructor
 ·rintro⟨q,hq,rfl⟩;exact⟨q,hq,rfl⟩
 ·rintro⟨q,hq,rfl⟩;exact⟨q,hq,rfl⟩
theorem Wep {held:List Pc}{k:Nat}{cls:Int}{l:List Int}{m:Bool}:(Uh held k cls l m).map Pc.key=held.map Pc.key:=by
 unfold Uh;rw[zAJ];apply zy;intro p _;simp only[Function.comp];split<;>rfl
theorem U7 (hk:W.ars[k]?=some A)(h:WI W):WI (W.put k A W.sp W.held):=h.stepSame hk (St.refl (h.ga k A hk) (h.ow k A hk)) rfl (λ_ _=>Iff.rfl) rfl
theorem Wgz (h:GA A){j:Nat}{c:Cls}{ss:List SpA}(hc:Cl A j c ss){l:Nat}{s:SpA}{i:Nat}(hs:ss[l]?=some s)(hi:i<c.n){x:Nat}(h1:at_ c s i<=x)(h2:x<at_ c s i+c.size):VQ A (x:Int)=some ((j:Int),at_ c s i):=by
 have hC:=h.cen j c ss hc;have hp:=Uj hC.pos hi h1 h2;have hu:=h.used hc (zE hs) hp.1 hp.2;have hlt:=h.pg.lt (p:=x/256) (by rw[hu.1];omega);have hn:=h.pg.n2;have hjl:=hc.lt;have htb:=h.tb;unfold VQ;rw[zA (by omega),iTn];simp only;rw[zB (show x/256<1024 by omega),hu.2,zA (by omega),zA (by omega),zGK,hc.1,hc.2];simp only;rw[(Wbf hC).2 ⟨l,s,i,hs,hi,rfl,by omega,by omega⟩];rfl
theorem WbS (h:GA A){r:Nat×Nat}(hr:r∈A.runs){x:Nat}(h1:r.1*256<=x)(h2:x<(r.1+r.2)*256):VQ A (x:Int)=some (-1,r.1*256):=by
 have hu:=h.usedR hr (p:=x/256) (by omega) (by omega);have hlt:=h.pg.lt (p:=x/256) (by rw[hu.1];omega);have hn:=h.pg.n2;unfold VQ;rw[zA (by omega),iTn];simp only;rw[zB (show x/256<1024 by omega),hu.2,zA (by omega),zB rfl,Wam h.runsOk hr (by omega) (by omega)];rfl
theorem Weh (h:GA A){x:Int}{k:Int}{a:Nat}(hf:VQ A x=some (k,a)):(k = -1/\∃r∈A.runs,a=r.1*256/\((r.1*256:Nat):Int)<=x/\x<(((r.1+r.2)*256:Nat):Int)) ∨
 ∃(j:Nat) (c:Cls) (ss:List SpA) (l:Nat) (s:SpA) (i:Nat),k=j/\Cl A j c ss/\ss[l]?=some s/\i<c.n/\a=at_ c s i/\((at_ c s i:Nat):Int)<=x/\x<((at_ c s i+c.size:Nat):Int):=by
 unfold VQ at hf;split at hf
 ·cases hf
 ·rename_i hx;obtain⟨y,rfl⟩:=zi (show 0<=x by omega);rw[iTn]at hf;simp only at hf;by_cases hlt:y/256<1024
  ·rw[zB hlt]at hf;split at hf
   ·cases hf
   ·split at hf
    ·rename_i h0 h41;obtain⟨r,hr,he⟩:=zBW.1 hf;have hm:=zCW hr;have hp:=zCV hr;simp at hp;cases he;exact .inl ⟨rfl,r,hm,rfl,by omega,by omega⟩
    ·rename_i h0 h41;split at hf
     ·rename_i c ss h1 h2;obtain⟨a',ha,he⟩:=zBW.1 hf;cases he;have hc:Cl A (A.ow (y/256)-1) c ss:=⟨h1,h2⟩;obtain⟨l,s,i,hs,hi,rfl,h3,h4⟩:=(Wbf (h.cen _ _ _ hc)).1 ha;exact .inr ⟨_,c,ss,l,s,i,rfl,hc,hs,hi,rfl,h3,h4⟩
     ·cases hf
  ·rw[zA hlt,zB rfl]at hf;cases hf
theorem TkA.find (h:GA A){j:Nat}{x:Int}(hx:TkA A j x):∃y:Nat,x=y/\VQ A x=some ((j:Int),y):=by
 obtain⟨c,ss,hc,ht⟩:=hx;have hC:=h.cen j c ss hc;obtain⟨l,s,i,hs,hi,rfl,hb⟩:=(KW hC).1 ht;exact⟨_,rfl,Wgz h hc hs hi (zD _) (by have:=hC.pos;omega)⟩
theorem HQ (h:GA A){x:Int}:WfQ A x=true↔(∃j,TkA A j x)\/∃r∈A.runs,x=((r.1*256:Nat):Int):=by
 constructor
 ·intro hx;unfold WfQ at hx;split at hx
  ·rename_i k a hf;split at hx
   ·rename_i he;rcases Weh h hf with⟨rfl,r,hr,rfl,_⟩|⟨j,c,ss,l,s,i,rfl,hc,hs,hi,rfl,_⟩
    ·exact .inr ⟨r,hr,he.symm⟩
    ·rw[zA (by omega),iTn,hc.1,hc.2]at hx;exact .inl ⟨j,c,ss,hc,by simpa[Tk]using hx⟩
   ·cases hx
  ·cases hx
 ·rintro(⟨j,hj⟩|⟨r,hr,rfl⟩)
  ·obtain⟨y,rfl,hf⟩:=hj.find h;obtain⟨c,ss,hc,ht⟩:=hj;unfold WfQ;rw[hf];simp only;rw[zB True.intro,zA (by omega),iTn,hc.1,hc.2];unfold Tk at ht;show(isTk c ss (y:Int)==some true)=true;rw[ht];rfl
  ·unfold WfQ;have:=h.rpos r hr;rw[WbS h hr (zD _) (by omega)];simp
theorem WI.own1 (h:WI W)(hk:W.ars[k]?=some A){cl:Int}{l:List Int}(ho:ownW W.held k cl l=true){j:Nat}(e:cl=j):∀x∈l,¬InT A j x:=by
 intro x hx hin;obtain⟨p,hp,hpx⟩:=(QI.1 ho).1 x hx;obtain⟨p1,p2,p3,p4⟩:=QJ.1 hpx;obtain⟨c,_,_,_,h5⟩:=h.cls hp (j:=j) (by rw[p2,e]) (by rw[p1];exact hk);rw[p3]at h5;rw[h5.2 hin]at p4;cases p4
theorem WI.grow (h:WI W)(hk:W.ars[k]?=some A)(x:Int):WI (W.put k (growS A W.sp x).1 (growS A W.sp x).2 W.held):=by
 obtain⟨s,e1,e2,e3,_⟩:=WhM (h.ga k A hk) (h.ow k A hk) x;exact h.stepSame hk s e1 e3 e2
theorem WI.from (h:WI W)(hk:W.ars[k]?=some A)(cl m:Int):WI (W.put k (Yg A cl m) W.sp (W.held++(XZ A cl m).map λy=>⟨k,cl,y,szOf W.tb cl,false⟩)):=by
 obtain⟨o,e1,e2,e3,e4,e5⟩:=Wad (h.ga k A hk) cl m;have tb:(Yg A cl m).tb=A.tb:=o.kp.tb;have newK:∀y∈XZ A cl m,∃j:Nat,cl=j/\j<A.tb.length:=λy hy=>e3 (λe=>by rw[e]at hy;simp at hy);have hnot:∀y∈XZ A cl m,∀p∈W.held,¬(p.k=k/\p.cls=cl/\p.addr=y):=by
  rintro y hy p hp ⟨a1,a2,a3⟩;obtain⟨j,rfl,_⟩:=newK y hy;obtain⟨c,_,_,ht,_⟩:=h.cls hp a2 (by rw[a1];exact hk);rw[a3]at ht;exact e4 y hy (by rw[iTn];exact ht)
 refine h.step hk (o.st (h.ow k A hk)) ?_ (λp hp e=>?_) (λp hne=>?_) (λj y hy=>?_) λr hr=>?_
 ·rw[zAD,zAY];refine⟨h.hk,?_,λa ha b hb e=>?_⟩
  ·rw[zAJ];exact List.Pairwise.map (R:=(· ≠ ·)) _ (λa b hab e=>hab (by simpa[Pc.key]using e)) e2
  ·subst e;obtain⟨p,hp,rfl⟩:=zC.1 ha;obtain⟨q,hq,e⟩:=zC.1 hb;obtain⟨y,hy,rfl⟩:=zC.1 hq;simp only[Pc.key,Prod.mk.injEq]at e;exact hnot y hy p hp ⟨e.1.symm,e.2.1.symm,e.2.2.symm⟩
 ·rcases zM.1 hp with hp|hp
  ·exact(h.hd hk hp e).to tb o.runs (λj y hj=>(e5 j y).2 (.inl hj)) λj y=>by unfold InT;rw[e1]
  ·obtain⟨y,hy,rfl⟩:=zC.1 hp;obtain⟨j,rfl,hj⟩:=newK y hy;refine .inr ⟨j,A.tb[j],rfl,by rw[tb];exact gGe hj,?_,(e5 j y).2 (.inr ⟨(iTn j).symm,y,hy,rfl⟩),?_⟩
   ·show szOf W.tb (j:Int)=_;unfold szOf;rw[iTn,←h.tb k A hk,gGe hj];rfl
   ·constructor
    ·intro hx;cases hx
    ·rintro⟨t,ht,hx⟩;rw[e1]at ht;obtain⟨c,ss,t',hc,ht'⟩:=(h.ga k A hk).cl hj;rw[ht]at ht';cases ht';exact(e4 y hy (by rw[iTn];exact(Q0 hc).2 ((h.ga k A hk).trt j c ss t hc ht _ hx))).elim
 ·rw[zM];constructor
  ·rintro(hp|hp)
   ·exact hp
   ·obtain⟨y,_,rfl⟩:=zC.1 hp;exact(hne rfl).elim
  ·exact .inl
 ·rcases(e5 j y).1 hy with hy|⟨rfl,x,hx,rfl⟩
  ·obtain⟨p,hp,q⟩:=h.ht k A hk j y hy;exact⟨p,zAM _ hp,q⟩
  ·obtain⟨j,rfl,_⟩:=newK x hx;exact⟨_,zBL _ (zC.2 ⟨x,hx,rfl⟩),rfl,by simp,rfl⟩
 ·rw[o.runs]at hr;obtain⟨p,hp,q⟩:=h.hr k A hk r hr;exact⟨p,zAM _ hp,q⟩
theorem WI.drp (h:WI W){cl:Int}{l:List Int}(ho:ownW W.held k cl l=true):Wge W.held k cl l=W.held.filter λp=>!isOf k cl l p:=
 Wdi l h.hk (QI.1 ho).1 (QI.1 ho).2
theorem WI.toC (h:WI W)(hk:W.ars[k]?=some A){cl:Int}{l:List Int}(ho:ownW W.held k cl l=true):WI (W.put k (Zb A cl l) W.sp (if Z6 A cl l=0 then Wge W.held k cl l else W.held)):=by
 have ga:=h.ga k A hk;obtain⟨o,e1,e2,e3⟩:=WaK ga (k:=cl) (xs:=l) λh0 x hx=>by
  obtain⟨j,c,ss,rfl,_⟩:=Gm ga h0;rw[iTn];exact h.own1 hk ho rfl x hx
 by_cases h0:Z6 A cl l=0
 ·rw[zB h0,h.drp ho];obtain⟨j,c,ss,rfl,hc,hA⟩:=Gm ga h0;have e2:=e2 h0;rw[iTn]at e2;refine h.step hk (o.st (h.ow k A hk)) (KQ h.hk _) (λp hp e=>?_) (λp hne=>?_) (λi y hy=>?_) λr hr=>?_
  ·have hp':=zH.1 hp;have hno:isOf k (j:Int) l p=false:=by simpa using hp'.2
   rcases h.hd hk hp'.1 e with⟨h1,h2,r,hr,h3⟩|⟨i,d,h1,h2,h3,h4,h5⟩
   ·exact .inl ⟨h1,h2,r,by rw[o.runs];exact hr,h3⟩
   ·refine .inr ⟨i,d,h1,by rw[o.kp.tb];exact h2,h3,(e2 i _).2 ⟨h4,λ⟨a,b⟩=>?_⟩,by unfold InT at h5 ⊢;rw[e1];exact h5⟩;have:isOf k (j:Int) l p=true:=Zr.2 ⟨e,by rw[h1,a],b⟩;rw[hno]at this;cases this
  ·rw[zH];have:isOf k (j:Int) l p=false:=by
    apply zAQ.2;intro hx;exact hne (Zr.1 hx).1
   rw[this];simp
  ·obtain⟨hy1,hy2⟩:=(e2 i y).1 hy;obtain⟨p,hp,a1,a2,a3⟩:=h.ht k A hk i y hy1;refine⟨p,zH.2 ⟨hp,?_⟩,a1,a2,a3⟩;have:isOf k (j:Int) l p=false:=by
    apply zAQ.2;intro hx;obtain⟨_,b2,b3⟩:=Zr.1 hx;exact hy2 ⟨by omega,by rw[←a3];exact b3⟩
   rw[this];rfl
  ·rw[o.runs]at hr;obtain⟨p,hp,a1,a2,a3⟩:=h.hr k A hk r hr;refine⟨p,zH.2 ⟨hp,?_⟩,a1,a2,a3⟩;have:isOf k (j:Int) l p=false:=by
    apply zAQ.2;intro hx;have:=(Zr.1 hx).2.1;omega
   rw[this];rfl
 ·rw[zA h0,e3 h0];exact U7 hk h
theorem WI.move (h:WI W)(hk:W.ars[k]?=some A){B:AR}{j:Nat}{l:List Int}{m:Bool}(o:Ob A B)(e1:∀i y,TkA B i y↔TkA A i y)(e2:∀i y,InT B i y↔if i=j/\y∈l then m=true else InT A i y):WI (W.put k B W.sp (Uh W.held k (j:Int) l m)):=by
 refine h.step hk (o.st (h.ow k A hk)) (by rw[Wep];exact h.hk) (λp hp e=>?_) (λp hne=>?_) (λi y hy=>?_) λr hr=>?_
 ·obtain⟨q,hq,rfl⟩:=ZZ.1 hp;have hqk:q.k=k:=by
   split at e<;>exact e
  rcases h.hd hk hq hqk with⟨h1,h2,r,hr,h3⟩|⟨i,c,h1,h2,h3,h4,h5⟩
  ·have:isOf k (j:Int) l q=false:=by
    apply zAQ.2;intro hx;have:=(Zr.1 hx).2.1;omega
   rw[this];exact .inl ⟨h1,h2,r,by rw[o.runs];exact hr,h3⟩
  ·by_cases hx:isOf k (j:Int) l q=true
   ·rw[zB hx];obtain⟨_,b2,b3⟩:=Zr.1 hx;have hij:i=j:=by omega
    refine .inr ⟨i,c,h1,by rw[o.kp.tb];exact h2,h3,(e1 _ _).2 h4,?_⟩;show m=true↔InT B i (q.addr:Int);rw[e2,zB ⟨hij,b3⟩]
   ·rw[zA hx];refine .inr ⟨i,c,h1,by rw[o.kp.tb];exact h2,h3,(e1 _ _).2 h4,?_⟩;rw[e2,zA λhy=>hx (Zr.2 ⟨hqk,by rw[h1,hy.1],hy.2⟩)];exact h5
 ·rw[ZZ];constructor
  ·rintro⟨q,hq,rfl⟩;have:isOf k (j:Int) l q=false:=by
    apply zAQ.2;intro hx;rw[zB hx]at hne;exact hne (Zr.1 hx).1
   rw[this];exact hq
  ·intro hp;refine⟨p,hp,?_⟩;have:isOf k (j:Int) l p=false:=by
    apply zAQ.2;intro hx;exact hne (Zr.1 hx).1
   rw[this];rfl
 ·obtain⟨p,hp,a1,a2,a3⟩:=h.ht k A hk i y ((e1 i y).1 hy);refine⟨_,ZZ.2 ⟨p,hp,rfl⟩,?_,?_,?_⟩
  ·split<;>exact a1
  ·split<;>exact a2
  ·split<;>exact a3
 ·rw[o.runs]at hr;obtain⟨p,hp,a1,a2,a3⟩:=h.hr k A hk r hr;refine⟨_,ZZ.2 ⟨p,hp,rfl⟩,?_,?_,?_⟩
  ·split<;>exact a1
  ·split<;>exact a2
  ·split<;>exact a3
theorem Wfv {held:List Pc}{k:Nat}{cls:Int}{m:Bool}:Uh held k cls [] m=held:=by
 unfold Uh;have:∀p,isOf k cls [] p=false:=λp=>by simp[isOf]
 simp[this]
theorem WI.fromT (h:WI W)(hk:W.ars[k]?=some A)(cl:Int):WI (W.put k (Zf A cl) W.sp (Uh W.held k cl (Ye A cl) false)):=by
 obtain⟨o,e1,e2,e3,e4,e5⟩:=WbX (h.ga k A hk) cl;by_cases hv:Ye A cl=[]
 ·rw[hv,Wfv];have e6:∀j y,InT (Zf A cl) j y↔InT A j y:=λj y=>by rw[e5,hv];simp
  refine h.step hk (o.st (h.ow k A hk)) h.hk (λp hp e=>(h.hd hk hp e).to o.kp.tb o.runs (λj y=>(e1 j y).2) e6) (λ_ _=>Iff.rfl) (λj y hy=>h.ht k A hk j y ((e1 j y).1 hy)) λr hr=>h.hr k A hk r (by rw[←o.runs];exact hr)
 ·obtain⟨j,rfl,_⟩:=e4 hv;rw[iTn]at e5;exact h.move hk o e1 λi y=>by
   rw[e5];split
   ·rename_i hx;simp[hx]
   ·rename_i hx;simp[hx]
theorem WI.toT (h:WI W)(hk:W.ars[k]?=some A){cl:Int}{l:List Int}(ho:ownW W.held k cl l=true):WI (W.put k (Qh A cl l) W.sp (if Kb A cl l then Uh W.held k cl l true else W.held)):=by
 by_cases hv:Kb A cl l=true
 ·have hck:∃j:Nat,cl=j:=by
   have hE:V5 A cl l=0:=by
    unfold Kb at hv;simp only[zF,zN]at hv;exact hv.1
   have hck:A.ck cl=true:=by
    unfold V5 at hE;split at hE
    ·assumption
    ·cases hE
   obtain⟨j,hj,_⟩:=V7.1 hck;exact⟨j,hj⟩
  obtain⟨j,rfl⟩:=hck;obtain⟨o,e1,e2,_⟩:=WiU (h.ga k A hk) (j:Int) (xs:=l) (QI.1 ho).2 (by rw[iTn];exact h.own1 hk ho rfl);obtain⟨_,_,e2⟩:=e2 hv;rw[iTn]at e2;rw[hv,zB rfl];exact h.move hk o e1 λi y=>by
   rw[e2];split
   ·rename_i hx;simp[hx]
   ·rename_i hx;simp[hx]
 ·have hv:Kb A cl l=false:=by simpa using hv
  have e:Qh A cl l=A:=by unfold Qh;rw[hv];rfl
  rw[hv,e];exact U7 hk h
theorem WI.takeP (h:WI W)(hk:W.ars[k]?=some A)(m a:Int):WI (W.put k (takeAS A W.sp m a).1 (takeAS A W.sp m a).2 (if ZO A W.sp m a=0 then W.held++[⟨k, -1,Zt A W.sp m a*256,m.toNat*256,false⟩]else W.held)):=by
 rcases WbO (h.ga k A hk) (h.ow k A hk) m a with⟨e,hE,_⟩|⟨x,A1,sp1,hp,hE,hV,e,htk,hor,s,et,ek⟩
 ·rw[zA hE,e];exact U7 hk h
 ·rw[zB hE,hV];have eR:(takeAS A W.sp m a).1.runs=A.runs++[(x,m.toNat)]:=by rw[e]
  have hnew:∀r∈A.runs,r.1≠x:=by
   have hd:=s.ga.rdis;rw[eR]at hd;intro r hr e2;have h1:=(zBR.1 hd).2.2 r hr (x,m.toNat) (by simp);have h2:=(h.ga k A hk).rpos r hr;have h3:=s.ga.rpos (x,m.toNat) (by rw[eR];simp);simp only at h1 h3;omega
  refine h.step hk s ?_ (λp hp e=>?_) (λp hne=>?_) (λj y hy=>?_) λr hr=>?_
  ·rw[zAD,zAY];refine⟨h.hk,by simp,λb hb d hd e2=>?_⟩;subst e2;obtain⟨p,hp,rfl⟩:=zC.1 hb;simp only[zI,zBX,zR,Pc.key,Prod.mk.injEq]at hd;obtain⟨_,r,hr,h3,_⟩:=h.run hp hd.2.1 (A:=A) (by rw[hd.1];exact hk);exact hnew r hr (by omega)
  ·rcases zM.1 hp with hp|hp
   ·rcases h.hd hk hp e with⟨h1,h2,r,hr,h3⟩|⟨j,c,h1,h2,h3,h4,h5⟩
    ·exact .inl ⟨h1,h2,r,by rw[eR];exact zAM _ hr,h3⟩
    ·exact .inr ⟨j,c,h1,by rw[s.tb];exact h2,h3,(ek _ _).2 h4,by unfold InT at h5 ⊢;rw[et];exact h5⟩
   ·simp only[zR]at hp;subst hp;exact .inl ⟨rfl,rfl,(x,m.toNat),by rw[eR];simp,rfl,rfl⟩
  ·rw[zM];constructor
   ·rintro(hp|hp)
    ·exact hp
    ·simp only[zR]at hp;subst hp;exact(hne rfl).elim
   ·exact .inl
  ·obtain⟨p,hp,q⟩:=h.ht k A hk j y ((ek j y).1 hy);exact⟨p,zAM _ hp,q⟩
  ·rw[eR]at hr;rcases zM.1 hr with hr|hr
   ·obtain⟨p,hp,q⟩:=h.hr k A hk r hr;exact⟨p,zAM _ hp,q⟩
   ·simp only[zR]at hr;subst hr;exact⟨_,zBL _ (zR.2 rfl),rfl,rfl,rfl⟩
theorem WI.giveOwn (h:WI W)(hk:W.ars[k]?=some A){r:Nat×Nat}(hr:r∈A.runs):ownW W.held k (-1) [(r.1:Int)*256]=true:=by
 refine QI.2 ⟨λx hx=>?_,by simp⟩;simp only[zR]at hx;subst hx;obtain⟨p,hp,a1,a2,a3⟩:=h.hr k A hk r hr;exact⟨p,hp,QJ.2 ⟨a1,a2,by omega,(h.run hp a2 (by rw[a1];exact hk)).1⟩⟩
theorem WI.giveP (h:WI W)(hk:W.ars[k]?=some A)(x:Int):WI (W.put k (ZT A x) W.sp (if QS A x=0 then Wge W.held k (-1) [x*256]else W.held)):=by
 have ga:=h.ga k A hk;obtain⟨⟨kp,g⟩,et,ek,e1,e2⟩:=WfC ga x;by_cases h0:QS A x=0
 ·rw[zB h0];obtain⟨r,hr,rfl,eR⟩:=e2 h0;rw[h.drp (h.giveOwn hk hr)];have hof:∀p:Pc,isOf k (-1) [(r.1:Int)*256] p=true↔p.k=k/\p.cls = -1/\p.addr=r.1*256:=λp=>by
   rw[Zr];simp only[zR];constructor
   ·rintro⟨a,b,c⟩;exact⟨a,b,by omega⟩
   ·rintro⟨a,b,c⟩;exact⟨a,b,by omega⟩
  refine h.step hk (St.kp g (h.ow k A hk) kp) (KQ h.hk _) (λp hp e=>?_) (λp hne=>?_) (λi y hy=>?_) λq hq=>?_
  ·have hp':=zH.1 hp;have hno:¬isOf k (-1) [(r.1:Int)*256] p=true:=by simpa using hp'.2
   rw[hof]at hno;rcases h.hd hk hp'.1 e with⟨h1,h2,q,hq,h3⟩|⟨j,c,h1,h2,h3,h4,h5⟩
   ·refine .inl ⟨h1,h2,q,?_,h3⟩;rw[eR,zH];refine⟨hq,?_⟩;have:q≠r:=by rintro rfl;exact hno ⟨e,h1,h3.1⟩
    simpa using this
   ·exact .inr ⟨j,c,h1,by rw[kp.tb];exact h2,h3,(ek _ _).2 h4,by unfold InT at h5 ⊢;rw[et];exact h5⟩
  ·rw[zH];have:isOf k (-1) [(r.1:Int)*256] p=false:=by
    apply zAQ.2;intro hx;exact hne (Zr.1 hx).1
   rw[this];simp
  ·obtain⟨p,hp,a1,a2,a3⟩:=h.ht k A hk i y ((ek i y).1 hy);refine⟨p,zH.2 ⟨hp,?_⟩,a1,a2,a3⟩;have:isOf k (-1) [(r.1:Int)*256] p=false:=by
    apply zAQ.2;intro hx;have:=((hof p).1 hx).2.1;omega
   rw[this];rfl
  ·rw[eR,zH]at hq;obtain⟨p,hp,a1,a2,a3⟩:=h.hr k A hk q hq.1;refine⟨p,zH.2 ⟨hp,?_⟩,a1,a2,a3⟩;have:isOf k (-1) [(r.1:Int)*256] p=false:=by
    apply zAQ.2;intro hx;have h3:=((hof p).1 hx).2.2;have h4:=ga.rpos q hq.1;have h5:=ga.rpos r hr;have:q=r:=ga.runs_uniq hq.1 hr (x:=q.1) (by omega) (by omega) (by omega) (by omega);subst this;simp at hq
   rw[this];rfl
 ·rw[zA h0,e1 h0];exact U7 hk h
theorem WI.tick (h:WI W)(hk:W.ars[k]?=some A):WI (W.put k (Wbk A) W.sp (WhT (W.ars.set k (Wbk A)) W.held)):=by
 have ga:=h.ga k A hk;have t:=WhG ga;have hkl:=(gSi.1 hk).1;have self:(W.ars.set k (Wbk A))[k]?=some (Wbk A):=zK hkl;have keep:∀p∈W.held,p∈WhT (W.ars.set k (Wbk A)) W.held↔(p.k=k->∀j:Nat,p.cls=j->TkA (Wbk A) j (p.addr:Int)):=by
  intro p hp;unfold WhT;rw[zH];simp only[hp,zCZ,zBH,zAO];by_cases hpk:p.k=k
  ·rw[hpk,self];simp only[true_implies];rcases h.hd hk hp hpk with⟨h1,h2,r,hr,h3⟩|⟨j,c,h1,h2,h3,h4,h5⟩
   ·exact⟨λ_ j hj=>by omega,λ_=>.inl h2⟩
   ·constructor
    ·intro hx i hi;obtain rfl:i=j:=by omega
     rcases hx with hx|hx
     ·refine(t.tk i _).2 ⟨h4,λhin=>?_⟩;rw[h5.2 hin]at hx;cases hx
     ·rcases(HQ t.ob.ga).1 hx with⟨j',hj'⟩|⟨r,hr,e⟩
      ·obtain⟨y,e,hf⟩:=((t.tk j' _).1 hj').1.find ga;obtain⟨y',e',hf'⟩:=h4.find ga;rw[hf]at hf';have:j'=i:=by
        have:=congrArg Prod.fst (Option.some.inj hf');simp only at this;omega
       rw[←this];exact hj'
      ·rw[t.ob.runs]at hr;have:=ga.rpos r hr;have h6:=WbS ga hr (x:=r.1*256) (zD _) (by omega);obtain⟨y',e',hf'⟩:=h4.find ga;rw[e,h6]at hf';have:=congrArg Prod.fst (Option.some.inj hf');simp only at this;omega
    ·intro hx;by_cases hm:p.moved=true
     ·exact .inr ((HQ t.ob.ga).2 (.inl ⟨j,hx j h1⟩))
     ·exact .inl (by simpa using hm)
  ·constructor
   ·intro _ hx;exact(hpk hx).elim
   ·intro _;obtain⟨C,hC,hh⟩:=h.hf p hp;rw[zf (Ne.symm hpk),hC];rcases hh with⟨h1,h2,_⟩|⟨j,c,_,_,_,h4,_⟩
    ·exact .inl h2
    ·exact .inr ((HQ (h.ga _ C hC)).2 (.inl ⟨j,h4⟩))
 have sub:∀p,p∈WhT (W.ars.set k (Wbk A)) W.held->p∈W.held:=λp hp=>(zH.1 hp).1;refine h.step hk (t.ob.st (h.ow k A hk)) (KQ h.hk _) (λp hp e=>?_) (λp hne=>⟨sub p,λhp=>(keep p hp).2 λe=>(hne e).elim⟩) (λj y hy=>?_) λr hr=>?_
 ·have hk2:=(keep p (sub p hp)).1 hp e;rcases h.hd hk (sub p hp) e with⟨h1,h2,r,hr,h3⟩|⟨j,c,h1,h2,h3,h4,h5⟩
  ·exact .inl ⟨h1,h2,r,by rw[t.ob.runs];exact hr,h3⟩
  ·have hj:=hk2 j h1;refine .inr ⟨j,c,h1,by rw[t.ob.kp.tb];exact h2,h3,hj,?_⟩;rw[h5];exact⟨((t.tk j _).1 hj).2,t.sub j _⟩
 ·obtain⟨p,hp,a1,a2,a3⟩:=h.ht k A hk j y ((t.tk j y).1 hy).1;refine⟨p,(keep p hp).2 λ_ i hi=>?_,a1,a2,a3⟩;obtain rfl:i=j:=by omega
  rw[a3];exact hy
 ·rw[t.ob.runs]at hr;obtain⟨p,hp,a1,a2,a3⟩:=h.hr k A hk r hr;exact⟨p,(keep p hp).2 λ_ i hi=>by omega,a1,a2,a3⟩
theorem WI.page (h:WI W){p:Pc}(hp:p∈W.held)(hk:W.ars[p.k]?=some A){x:Nat}(h1:p.addr<=x)(h2:x<p.addr+p.size):A.f (x/256)=1:=by
 have ga:=h.ga _ A hk;rcases h.hd hk hp rfl with⟨_,_,r,hr,e1,e2⟩|⟨j,c,_,hc,e1,ht,_⟩
 ·exact(ga.usedR hr (by omega) (by omega)).1
 ·obtain⟨c',ss,hcl,htk⟩:=ht;have:c'=c:=Option.some.inj (hcl.1.symm.trans hc);subst this;have hC:=ga.cen j c' ss hcl;obtain⟨l,s,i,hs,hi,e,_⟩:=(KW hC).1 htk;have e':p.addr=at_ c' s i:=Int.ofNat.inj e;have:=Uj hC.pos hi (s:=s) (x:=x) (by omega) (by omega);exact(ga.used hcl (zE hs) this.1 this.2).1
theorem TkA.lt (h:GA A){j:Nat}{x:Int}(hx:TkA A j x):∃y:Nat,x=y/\y<262144:=by
 obtain⟨c,ss,hc,ht⟩:=hx;have hC:=h.cen j c ss hc;obtain⟨l,s,i,hs,hi,rfl,hb⟩:=(KW hC).1 ht;have hp:=Uj hC.pos (s:=s) (x:=at_ c s i) hi (zD _) (by have:=hC.pos;omega);have hu:=(h.used hc (zE hs) hp.1 hp.2).1;have:=h.pg.lt (p:=at_ c s i/256) (by omega);have:=h.pg.n2;exact⟨_,rfl,by omega⟩
theorem WI.addr_lt (h:WI W){p:Pc}(hp:p∈W.held):p.addr<262144/\p.addr+p.size<=270000:=by
 obtain⟨A,hA,hh⟩:=h.hf p hp;have ga:=h.ga _ A hA;have hn:=ga.pg.n2;rcases hh with⟨_,_,r,hr,h1,h2⟩|⟨j,c,_,hc,h2,h3,_⟩
 ·have h4:=ga.fit hr;have h5:=ga.rpos r hr;omega
 ·obtain⟨y,e,hy⟩:=h3.lt ga;obtain⟨c',ss,hcl,_⟩:=h3;have:c'=c:=Option.some.inj (hcl.1.symm.trans hc);subst this;have hok:=(ga.cen j _ ss hcl).ok;unfold Cls.ok at hok;omega
theorem Wag:∀(N:Nat) (l:List Nat),l.Nodup->(∀x∈l,x<N)->l.length<=N
 | 0,l,_,h=>by
  cases l with
  | nil=>simp
  | cons x l=>have:=h x (by simp);omega
 | N+1,l,hn,h=>by
  have h1:=Wag N (l.filter (· != N)) (hn.sublist zCS) λx hx=>by
   have hx:=zH.1 hx;have:=h x hx.1;have:x≠N:=by simpa using hx.2
   omega
  have h2:=List.length_eq_countP_add_countP (l:=l) (p:=(· != N));have h3:l.countP (λa=>¬(a != N)=true)<=1:=by
   have e:l.countP (λa=>¬(a != N)=true)=l.count N:=by
    unfold List.count;apply zFM;intro x _;simp
   rw[e];exact zGL.1 hn N
  rw[zEG]at h2;omega
theorem WI.apart (h:WI W){p q:Pc}(hp:p∈W.held)(hq:q∈W.held){x:Nat}(p1:p.addr<=x)(p2:x<p.addr+p.size)(q1:q.addr<=x)(q2:x<q.addr+q.size):p=q:=by
 obtain⟨A,hA,hh⟩:=h.hf p hp;obtain⟨B,hB,hg⟩:=h.hf q hq;have e1:=h.page hp hA p1 p2;have e2:=h.page hq hB q1 q2;have hk:p.k=q.k:=h.one (x/256) p.k q.k A B hA hB (by omega) (by omega);rw[←hk,hA]at hB;cases hB;have ga:=h.ga _ A hA;have htb:=ga.tb;have own:∀{r:Pc},Hd A r->r.addr<=x->x<r.addr+r.size->(r.cls = -1/\A.ow (x/256)=41/\∃u∈A.runs,r.addr=u.1*256/\u.1<=x/256/\x/256<u.1+u.2) ∨
  ∃(j:Nat) (c:Cls) (ss:List SpA) (l:Nat) (s:SpA) (i:Nat),r.cls=j/\A.ow (x/256)=j+1/\Cl A j c ss/\ss[l]?=some s/\i<c.n/\r.addr=at_ c s i/\r.size=c.size:=by
  intro r hr r1 r2;rcases hr with⟨c1,_,u,hu,c2,c3⟩|⟨j,c,c1,c2,c3,c4,_⟩
  ·exact .inl ⟨c1,(ga.usedR hu (by omega) (by omega)).2,u,hu,c2,by omega,by omega⟩
  ·obtain⟨c',ss,hcl,ht⟩:=c4;have:c'=c:=Option.some.inj (hcl.1.symm.trans c2);subst this;have hC:=ga.cen j c' ss hcl;obtain⟨l,s,i,hs,hi,e,_⟩:=(KW hC).1 ht;have e':r.addr=at_ c' s i:=Int.ofNat.inj e;have hpg:=Uj hC.pos (s:=s) (x:=x) hi (by omega) (by omega);exact .inr ⟨j,c',ss,l,s,i,c1,(ga.used hcl (zE hs) hpg.1 hpg.2).2,hcl,hs,hi,e',c3⟩
 refine h.unique hp hq ?_;rcases own hh p1 p2 with⟨a1,a2,u,hu,a3,a4,a5⟩|⟨j,c,ss,l,s,i,a1,a2,a3,a4,a5,a6,a7⟩
 ·rcases own hg q1 q2 with⟨b1,b2,w,hw,b3,b4,b5⟩|⟨j',c',ss',l',s',i',b1,b2,b3,b4,b5,b6,b7⟩
  ·have:=ga.runs_uniq hu hw a4 a5 b4 b5;subst this;unfold Pc.key;rw[hk,a1,b1,a3,b3]
  ·have:=b3.lt;omega
 ·rcases own hg q1 q2 with⟨b1,b2,w,hw,b3,b4,b5⟩|⟨j',c',ss',l',s',i',b1,b2,b3,b4,b5,b6,b7⟩
  ·have:=a3.lt;omega
  ·have hj:j=j':=by omega
   subst hj;obtain⟨rfl,rfl⟩:=a3.eq b3;have:=Vf (ga.cen j c ss a3) a4 b4 a5 b5 (x:=x) (by omega) (by omega) (by omega) (by omega);unfold Pc.key;rw[hk,a1,b1,a6,b6,this.2.1,this.2.2]
theorem WI.size_pos (h:WI W){p:Pc}(hp:p∈W.held):8<=p.size/\p.size%8=0:=by
 obtain⟨A,hA,hh⟩:=h.hf p hp;have ga:=h.ga _ A hA;rcases hh with⟨_,_,r,hr,h1,h2⟩|⟨j,c,_,hc,h2,h3,_⟩
 ·have h5:=ga.rpos r hr;omega
 ·obtain⟨c',ss,hcl,_⟩:=h3;have:c'=c:=Option.some.inj (hcl.1.symm.trans hc);subst this;have hok:=(ga.cen j _ ss hcl).ok;unfold Cls.ok at hok;omega
theorem WI.len (h:WI W):W.held.length<=262144:=by
 have hn:(W.held.map (·.addr)).Nodup:=by
  have h1:=zAF.1 h.hk;refine zAF.2 λi j hi hj hij e=>?_;have hi':i<W.held.length:=by simpa using hi
  have hj':j<W.held.length:=by simpa using hj
  refine h1 i j (by simpa using hi') (by simpa using hj') hij ?_;simp only[zCI]at e ⊢;have s1:=(h.size_pos (zj hi')).1;have s2:=(h.size_pos (zj hj')).1;rw[h.apart (zj hi') (zj hj') (x:=W.held[i].addr) (zD _) (by omega) (by omega) (by omega)]
 have:=Wag 262144 _ hn λx hx=>by
  obtain⟨p,hp,rfl⟩:=zC.1 hx;exact(h.addr_lt hp).1
 simpa using this
end Go.Ar
namespace Go.Ar
open Go.Vc (mget mset mdel)
def cnV (live:List (Int×Bk))(k x:Int):Nat:=live.countP λe=>e.2.2.2.1==k&&e.1==x
def cnL (ls:List Li)(k x:Int):Nat:=if 0<=k then(ls.getD k.toNat liN).os.count x else 0
def cnB (bs:List Bt)(k x:Int):Nat:=(bs.map λb=>if(b.1:Int)=k then b.2.count x else 0).sum
def cnP (p:Option Ph)(k x:Int):Nat:=match p with
 | some (.give s _)=>if k = -1/\x=s*256 then 1 else 0
 | _=>0
def cnT (g:Th)(k x:Int):Nat:=cnL g.ls k x+cnB g.hands k x+cnP g.ph k x
def cnH (H:Hw)(k x:Int):Nat:=cnV H.live k x+(H.ths.map λg=>cnT g k x).sum
def Um (held:List Pc)(k x:Int):Prop:=∃p∈held,p.moved=false/\p.cls=k/\(p.addr:Int)=x
open Classical in
noncomputable def cnW (held:List Pc)(k x:Int):Nat:=if Um held k x then 1 else 0
theorem WiG (held:List Pc)(k x:Int):cnW held k x<=1:=by unfold cnW;split<;>omega
theorem WcU {held:List Pc}{k x:Int}(h:1<=cnW held k x):Um held k x:=by
 unfold cnW at h;split at h
 ·assumption
 ·omega
theorem Ko {held:List Pc}{k x:Int}(h:Um held k x):cnW held k x=1:=by unfold cnW;rw[zB h]
theorem Qt {held:List Pc}{k x:Int}(h:¬Um held k x):cnW held k x=0:=by unfold cnW;rw[zA h]
theorem WiI {l:List Int}(hn:l.Nodup)(x:Int):l.count x=if x∈l then 1 else 0:=by
 split
 ·rename_i h;have h1:=zGL.1 hn x;have h2:=zGM.2 h;omega
 ·rename_i h;exact zFJ.2 h
theorem Wch {held held':List Pc}{cl:Int}{l:List Int}(hn:l.Nodup)(h0:∀x∈l,¬Um held cl x)(h:∀k x,Um held' k x↔Um held k x\/(k=cl/\x∈l))(k x:Int):cnW held' k x=cnW held k x+(if cl=k then l.count x else 0):=by
 by_cases hk:cl=k
 ·subst hk;rw[zB rfl,WiI hn];by_cases hx:x∈l
  ·rw[zB hx,Qt (h0 x hx),Ko ((h _ _).2 (.inr ⟨rfl,hx⟩))]
  ·rw[zA hx,zt];by_cases hu:Um held cl x
   ·rw[Ko hu,Ko ((h _ _).2 (.inl hu))]
   ·rw[Qt hu,Qt λhy=>by rcases(h _ _).1 hy with hy|⟨_,hy⟩;exact hu hy;exact hx hy]
 ·rw[zA hk,zt];by_cases hu:Um held k x
  ·rw[Ko hu,Ko ((h _ _).2 (.inl hu))]
  ·rw[Qt hu,Qt λhy=>by rcases(h _ _).1 hy with hy|⟨hy,_⟩;exact hu hy;exact hk hy.symm]
theorem Wfu {held held':List Pc}{cl:Int}{l:List Int}(hn:l.Nodup)(h0:∀x∈l,Um held cl x)(h:∀k x,Um held' k x↔Um held k x/\¬(k=cl/\x∈l))(k x:Int):cnW held k x=cnW held' k x+(if cl=k then l.count x else 0):=by
 by_cases hk:cl=k
 ·subst hk;rw[zB rfl,WiI hn];by_cases hx:x∈l
  ·rw[zB hx,Ko (h0 x hx),Qt λhy=>((h _ _).1 hy).2 ⟨rfl,hx⟩]
  ·rw[zA hx,zt];by_cases hu:Um held cl x
   ·rw[Ko hu,Ko ((h _ _).2 ⟨hu,λhy=>hx hy.2⟩)]
   ·rw[Qt hu,Qt λhy=>hu ((h _ _).1 hy).1]
 ·rw[zA hk,zt];by_cases hu:Um held k x
  ·rw[Ko hu,Ko ((h _ _).2 ⟨hu,λhy=>hk hy.1.symm⟩)]
  ·rw[Qt hu,Qt λhy=>hu ((h _ _).1 hy).1]
theorem WeR {α:Type}(f:α->Nat):∀{l:List α} {t:Nat} {g:α} (g':α),l[t]?=some g->((l.set t g').map f).sum+f g=(l.map f).sum+f g'
 | [],t,g,g',h=>by simp at h
 | a::l,0,g,g',h=>by
  simp only[zEK,Option.some.injEq]at h;subst h;simp only[List.set_cons_zero,zI,zp];omega
 | a::l,t+1,g,g',h=>by
  have:=WeR f (l:=l) (t:=t) g' (by simpa using h);simp only[zCL,zI,zp];omega
theorem WcV {α:Type}(f:α->Nat){l:List α}{g:α}(h:g∈l):f g<=(l.map f).sum:=by
 induction l with
 | nil=>simp at h
 | cons a l ih=>
  simp only[zI,zp];rcases zX.1 h with rfl|h
  ·omega
  ·have:=ih h;omega
theorem Hs (ls:List Li)(k:Nat)(x:Int):cnL ls (k:Int) x=(ls.getD k liN).os.count x:=by
 unfold cnL;rw[zB (by omega),iTn]
theorem Wc3 {ls:List Li}{j:Nat}(l:Li)(k:Nat)(h:j<ls.length):(ls.set j l).getD k liN=if k=j then l else ls.getD k liN:=by
 rw[zO,zCH];by_cases hkj:k=j
 ·subst hkj;simp[h]
 ·rw[zA hkj,zA (Ne.symm hkj),zO]
theorem WjR {ls:List Li}{j:Nat}(l:Li)(h:j<ls.length)(k x:Int):cnL (ls.set j l) k x+(if(j:Int)=k then(ls.getD j liN).os.count x else 0)=cnL ls k x+(if(j:Int)=k then l.os.count x else 0):=by
 by_cases hk:0<=k
 ·obtain⟨k,rfl⟩:=zi hk;rw[Hs,Hs,Wc3 l k h];by_cases hjk:j=k
  ·subst hjk;simp;omega
  ·have:¬(j:Int)=(k:Int):=by omega
   rw[zA (Ne.symm hjk),zA this,zA this]
 ·unfold cnL;rw[zA hk,zA hk,zA (by omega),zA (by omega)]
theorem Ku (k x:Int):cnB [] k x=0:=rfl
theorem QC (b:Bt)(bs:List Bt)(k x:Int):cnB (b::bs) k x=(if(b.1:Int)=k then b.2.count x else 0)+cnB bs k x:=by
 unfold cnB;rw[zI,zp]
theorem GX (a b:List Bt)(k x:Int):cnB (a++b) k x=cnB a k x+cnB b k x:=by
 unfold cnB;rw[zAD,zDR]
theorem cnF {f:Cls->Li->List Int×Li}(hf:∀c l x,(f c l).1.count x+(f c l).2.os.count x=l.os.count x){tb:List Cls}{ls:List Li}(hl:ls.length=tb.length)(k x:Int):cnB (Qj f tb ls) k x+cnL (Qi f tb ls) k x=cnL ls k x:=by
 have key:∀n,n<=tb.length->cnB ((List.range n).filterMap λk=>match tb[k]?,ls[k]? with
  | some c,some l=>if(f c l).1=[]then none else some (k,(f c l).1)
  | _,_=>none) k x=if 0<=k/\k<(n:Int)then(match tb[k.toNat]?,ls[k.toNat]? with
  | some c,some l=>(f c l).1.count x
  | _,_=>0)else 0:=by
  intro n
  induction n with
  | zero=>intro _;rw[zA (by omega)];rfl
  | succ n ih=>
   intro hn;have ih:=ih (by omega);rw[zBD,zDG,GX,ih];have hc:tb[n]?=some tb[n]:=gGe (by omega);have hli:ls[n]?=some ls[n]:=gGe (by omega);have e:cnB ([n].filterMap λk=>match tb[k]?,ls[k]? with
    | some c,some l=>if(f c l).1=[]then none else some (k,(f c l).1)
    | _,_=>none) k x=if(n:Int)=k then(f tb[n] ls[n]).1.count x else 0:=by
    rw[zFU,hc,hli];simp only;by_cases he:(f tb[n] ls[n]).1=[]
    ·rw[zB he,he];simp[Ku]
    ·rw[zA he];simp only[List.filterMap_nil,QC,Ku,zt]
   rw[e];by_cases h1:0<=k/\k<(n:Int)
   ·rw[zB h1,zA (show ¬(n:Int)=k by omega),zt,zB (show 0<=k/\k<((n+1:Nat):Int)from⟨h1.1,by omega⟩)]
   ·rw[zA h1,zG];by_cases h2:(n:Int)=k
    ·subst h2;rw[zB rfl,zB (show(0:Int)<=(n:Int)/\(n:Int)<((n+1:Nat):Int)from⟨by omega,by omega⟩),iTn,hc,hli]
    ·rw[zA h2,zA (by omega)]
 have h1:=key tb.length (zD _);have e:Qj f tb ls=(List.range tb.length).filterMap λk=>match tb[k]?,ls[k]? with
  | some c,some l=>if(f c l).1=[]then none else some (k,(f c l).1)
  | _,_=>none:=rfl
 rw[e,h1];by_cases hk:0<=k
 ·obtain⟨k,rfl⟩:=zi hk;rw[Hs,Hs,iTn];by_cases hkl:k<tb.length
  ·have hc:tb[k]?=some tb[k]:=gGe hkl;have hli:ls[k]?=some ls[k]:=gGe (by omega);rw[zB ⟨by omega,by omega⟩,hc,hli];simp only;have:(Qi f tb ls).getD k liN=(f tb[k] ls[k]).2:=by
    unfold Qi;rw[zO,zGI,hc,hli];rfl
   rw[this,zO,hli];exact hf _ _ _
  ·rw[zA (by omega),zG];have h1:(Qi f tb ls).getD k liN=liN:=by
    unfold Qi;rw[zO,zV (by rw[List.length_zipWith];omega)];rfl
   have h2:ls.getD k liN=liN:=by rw[zO,zV (by omega)];rfl
   rw[h1,h2]
 ·rw[zA (by omega),zG];unfold cnL;rw[zA hk,zA hk]
theorem Wcj (m:Nat)(l:Li)(x:Int):(oldL m l).1.count x+(oldL m l).2.os.count x=l.os.count x:=by
 show(l.os.take m).count x+(l.os.drop m).count x=_;rw[←zDP,zBG]
theorem Wg5 (c:Cls)(l:Li)(x:Int):(QM c l).1.count x+(QM c l).2.os.count x=l.os.count x:=Wcj _ l x
theorem Wgf (c:Cls)(l:Li)(x:Int):(Zj c l).1.count x+(Zj c l).2.os.count x=l.os.count x:=Wcj _ l x
theorem WjN (c:Cls)(y:Int)(l:Li)(hl:l.os.length<=255)(x:Int):(putL c y l).1.count x+(putL c y l).2.os.count x=l.os.count x + [y].count x:=by
 have hadd:(addL [y] l).os=l.os++[y]:=by
  unfold addL;rw[zA (by simp;omega)]
 unfold putL;rw[zA (by omega)];split
 ·rw[hadd,List.count_nil,zG,zDP]
 ·rw[Wcj];have:(upL c (addL [y] l)).os=(addL [y] l).os:=by unfold upL;split<;>rfl
  rw[this,hadd,zDP]
theorem WdB {c:Cls}{l l':Li}{y:Int}(h:Qk c l=(some y,l'))(x:Int):l.os.count x=l'.os.count x + [y].count x:=by
 unfold Qk at h;split at h
 ·simp at h
 ·rename_i z hz;cases h;have:l.os=l.os.dropLast++[y]:=by
   obtain⟨ys,hy⟩:=List.getLast?_eq_some_iff.1 hz;rw[hy];simp
  conv=>lhs;rw[this]
  rw[zDP]
theorem WeV {c:Cls}{l l':Li}(h:Qk c l=(none,l')):l.os=[]/\l'.os=[]:=by
 unfold Qk at h;split at h
 ·rename_i hz;have:l.os=[]:=by simpa using hz
  cases h;refine⟨this,?_⟩;split<;>exact this
 ·simp at h
theorem WaW {live:List (Int×Bk)}{x:Int}(b:Bk)(h:mget live x=none)(k y:Int):cnV (mset live x b) k y=cnV live k y+(if b.2.2.1=k then[x].count y else 0):=by
 have ha:live.any (λe=>e.1==x)=false:=by
  rw[zAP];intro e he hx;unfold mget at h;rw[zCM,zBI]at h;exact h e he hx
 unfold mset;rw[ha,zA (by simp)];unfold cnV;rw[zDV]
 congr 1
 rw[zCG,List.countP_nil,zG];by_cases h1:b.2.2.1=k
 ·by_cases h2:x=y
  ·subst h2;simp[h1]
  ·simp[h1,h2]
 ·simp[h1]
theorem U9 {live:List (Int×Bk)}{x:Int}{b:Bk}(h:mget live x=none){e:Int×Bk}:e∈mset live x b↔e∈live\/e=(x,b):=by
 have ha:live.any (λe=>e.1==x)=false:=by
  rw[zAP];intro e he hx;unfold mget at h;rw[zCM,zBI]at h;exact h e he hx
 unfold mset;rw[ha,zA (by simp),zM,zR]
theorem U0 {live:List (Int×Bk)}{x:Int}{e:Int×Bk}:e∈mdel live x↔e∈live/\e.1≠x:=by
 unfold mdel;rw[zH];simp
theorem WaG:∀{live:List (Int×Bk)} {x:Int} {b:Bk},(live.map (·.1)).Nodup->mget live x=some b->∀k y,cnV live k y=cnV (mdel live x) k y+(if b.2.2.1=k then[x].count y else 0)
 | [],x,b,_,h,_,_=>by simp[mget]at h
 | e::l,x,b,hn,h,k,y=>by
  rw[zI,zm]at hn;by_cases he:e.1=x
  ·have hb:e.2=b:=by
    unfold mget at h;rw[List.find?_cons_of_pos (by simpa using he)]at h;simpa using h
   have hd:mdel (e::l) x=l:=by
    unfold mdel;rw[zEL (by simpa using he),zBE];intro a ha;have:a.1≠x:=λhx=>hn.1 (zC.2 ⟨a,ha,hx.trans he.symm⟩);simpa using this
   rw[hd];unfold cnV;rw[zCG,hb,he]
   congr 1
   by_cases h1:b.2.2.1=k
   ·by_cases h2:x=y
    ·subst h2;simp[h1]
    ·simp[h1,h2]
   ·simp[h1]
  ·have hm:mget l x=some b:=by
    unfold mget at h ⊢
    rwa [List.find?_cons_of_neg (by simpa using he)]at h
   have ih:=WaG hn.2 hm k y;have hd:mdel (e::l) x=e::mdel l x:=by
    unfold mdel;rw[zEM (by simpa using he)]
   rw[hd];unfold cnV at ih ⊢;rw[zCG,zCG,ih];omega
theorem WfJ {live:List (Int×Bk)}{e:Int×Bk}(h:e∈live):1<=cnV live e.2.2.2.1 e.1:=by
 unfold cnV;exact List.countP_pos_iff.2 ⟨e,h,by simp⟩
structure Sim (s s':Sp):Prop where
 l:s'.st.length=s.st.length
 z:∀p,gf s'.st p=0↔gf s.st p=0
 w:s'.wd=s.wd
def PhI (m:Nat)(g:Th):Prop:=match g.ph with
 | none=>g.hands=[]
 | some (.take k)=>g.hands=[]/\k<m
 | some (.transfer k w)=>g.hands=[]/\k<m/\(g.li k).os=[]/\1<=w/\w<=32
 | some (.central k w)=>g.hands=[]/\k<m/\(g.li k).os=[]/\1<=w/\w<=32
 | some (.grow k w)=>g.hands=[]/\k<m/\(g.li k).os=[]/\1<=w/\w<=32
 | some .fill=>∃k x xs,g.hands=[(k,x::xs)]/\k<m/\(g.li k).os=[]/\xs.length<=128
 | some (.large n)=>g.hands=[]/\1<=n/\n<=64
 | some (.find x)=>g.hands=[]/\I63 x
 | some (.put k x)=>g.hands=[(k,[x])]/\k<m
 | some .back=>g.hands≠[]
 | some (.give _ _)=>g.hands=[]
 | some .drain=>g.hands=[]
structure ThI (m:Nat) (g:Th):Prop where
 ll:g.ls.length=m
 lo:∀l∈g.ls,LiOk l/\l.os.length<=128
 hb:∀b∈g.hands,b.1<m/\b.2≠[]/\b.2.length<=256
 hl:g.hands.length<=41
 ph:PhI m g
def Lv (held:List Pc)(e:Int×Bk):Prop:=e.2.1=e.1/\∃p∈held,p.moved=false/\p.cls=e.2.2.2.1/\(p.addr:Int)=e.1/\e.2.2.1=(p.size:Int)/\e.2.2.2.2=(p.k:Int)
def Gv (held:List Pc)(s a:Int):Prop:=∃p∈held,p.moved=false/\p.cls = -1/\(p.addr:Int)=s*256/\a=(p.k:Int)
structure HI (H:Hw) (held:List Pc) (s0:Sp):Prop where
 wi:WI ⟨H.tb,s0,H.ars,held⟩
 sim:Sim s0 H.sp
 cn:∀k x,cnH H k x=cnW held k x
 lk:(H.live.map (·.1)).Nodup
 lv:∀e∈H.live,Lv held e
 gv:∀g∈H.ths,∀s a,g.ph=some (.give s a)->Gv held s a
 th:∀g∈H.ths,ThI H.tb.length g
 ok:∀c∈H.tb,c.ok
 a1:1<=H.ars.length
 sl:H.sp.st.length=H.cf.pages
variable {H:Hw}{held:List Pc}{s0:Sp}{t k:Nat}{g:Th}{A:AR}
theorem Sim.refl (s:Sp):Sim s s:=⟨rfl,λ_=>Iff.rfl,rfl⟩
theorem HI.apart (h:HI H held s0){p q:Pc}(hp:p∈held)(hq:q∈held){x:Nat}(p1:p.addr<=x)(p2:x<p.addr+p.size)(q1:q.addr<=x)(q2:x<q.addr+q.size):p=q:=h.wi.apart hp hq p1 p2 q1 q2
theorem WI.same {W:Wd}(h:WI W){p q:Pc}(hp:p∈W.held)(hq:q∈W.held)(e:p.addr=q.addr):p=q:=by
 have h1:=(h.size_pos hp).1;have h2:=(h.size_pos hq).1;exact h.apart hp hq (x:=p.addr) (zD _) (by omega) (by omega) (by omega)
theorem WI.um {W:Wd}(h:WI W){p:Pc}(hp:p∈W.held){k x:Int}(hu:Um W.held k x)(e:(p.addr:Int)=x):p.moved=false/\p.cls=k:=by
 obtain⟨q,hq,h1,h2,h3⟩:=hu;obtain rfl:=h.same hp hq (by omega);exact⟨h1,h2⟩
theorem HI.live_um (h:HI H held s0){e:Int×Bk}(he:e∈H.live):Um held e.2.2.2.1 e.1:=by
 obtain⟨_,p,hp,h1,h2,h3,_⟩:=h.lv e he;exact⟨p,hp,h1,h2,h3⟩
theorem HI.cnT_le (h:HI H held s0){g:Th}(hg:g∈H.ths)(k x:Int):cnT g k x<=cnW held k x:=by
 rw[←h.cn];unfold cnH;have:=WcV (λg=>cnT g k x) hg;omega
theorem HI.um_t (h:HI H held s0){g:Th}(hg:g∈H.ths){k x:Int}(hc:1<=cnT g k x):Um held k x:=WcU (ze hc (h.cnT_le hg k x))
theorem HI.not_live (h:HI H held s0){g:Th}(hg:g∈H.ths){k x:Int}(hc:1<=cnT g k x):mget H.live x=none:=by
 cases hm:mget H.live x with
 | none=>rfl
 | some b=>
  have he:=KF hm;have hu:=h.um_t hg hc;obtain⟨q,hq,h1,h2,h3⟩:=h.live_um he;have hk:k=b.2.2.1:=by
   have:=(h.wi.um (W:=⟨H.tb,s0,H.ars,held⟩) hq hu h3).2;exact this.symm.trans h2
  have h4:=WfJ he;have h5:=h.cn k x;have h6:=WiG held k x;have h7:=WcV (λg=>cnT g k x) hg;simp only at h4 h7;unfold cnH at h5;rw[hk]at h5 h6 h7 hc;omega
theorem HI.not_um (h:HI H held s0){x:Int}(hn:∀k,¬Um held k x):mget H.live x=none:=by
 cases hm:mget H.live x with
 | none=>rfl
 | some b=>exact(hn _ (h.live_um (KF hm))).elim
theorem HI.upd (h:HI H held s0)(hg:H.ths[t]?=some g){g':Th}{live':List (Int×Bk)}{s0' sp':Sp}{ars':List AR}{held':List Pc}(wi:WI ⟨H.tb,s0',ars',held'⟩)(sim:Sim s0' sp')(hsl:sp'.st.length=H.sp.st.length)(hl:ars'.length=H.ars.length)
 (sub:∀p∈held',p.moved=false->p∈held\/∀k,¬Um held k (p.addr:Int))
 (cn:∀k x,cnV live' k x+cnT g' k x+cnW held k x=cnV H.live k x+cnT g k x+cnW held' k x)
 (lk:(live'.map (·.1)).Nodup) (lv:∀e∈live',e∈H.live\/Lv held' e) (gv:∀s a,g'.ph=some (.give s a)->Gv held' s a) (th:ThI H.tb.length g') :
 HI {H with live:=live',sp:=sp',ars:=ars',ths:=H.ths.set t g'} held' s0':=by
 have cn':∀k x,cnH {H with live:=live',sp:=sp',ars:=ars',ths:=H.ths.set t g'} k x=cnW held' k x:=λk x=>by
  have h1:=h.cn k x;have h2:=cn k x;have h3:=WeR (λg=>cnT g k x) g' hg;unfold cnH at h1 ⊢;simp only at h3 ⊢;omega
 have ht:=(gSi.1 hg).1;have keep:∀p∈held,p.moved=false->Um held' p.cls (p.addr:Int)->p∈held':=λp hp hm ⟨q,hq,h1,h2,h3⟩=>by
  rcases sub q hq h1 with hs|hs
  ·have:q=p:=h.wi.same (W:=⟨H.tb,s0,H.ars,held⟩) hs hp (by omega);rw[←this];exact hq
  ·exact(hs p.cls ⟨p,hp,hm,rfl,h3.symm⟩).elim
 refine⟨wi,sim,cn',lk,λe he=>?_,λg2 hg2 s a hp=>?_,λg2 hg2=>?_,h.ok,by simp only;rw[hl];exact h.a1,hsl.trans h.sl⟩
 ·rcases lv e he with he'|he'
  ·obtain⟨h0,p,hp,h1,h2,h3,h4⟩:=h.lv e he';refine⟨h0,p,keep p hp h1 ?_,h1,h2,h3,h4⟩;rw[h2,h3];apply WcU;rw[←cn'];have:1<=cnV live' e.2.2.2.1 e.1:=WfJ he;unfold cnH;simp only;omega
  ·exact he'
 ·rcases List.mem_iff_getElem?.1 hg2 with⟨j,hj⟩;rcases Q2 hj with⟨rfl,rfl,_⟩|⟨hne,hj'⟩
  ·exact gv s a hp
  ·obtain⟨p,hp1,h1,h2,h3,h4⟩:=h.gv g2 (zE hj') s a hp;refine⟨p,keep p hp1 h1 ?_,h1,h2,h3,h4⟩;rw[h2,h3];apply WcU;rw[←cn'];have h5:=WcV (λg=>cnT g (-1) (s*256)) hg2;have h6:1<=cnT g2 (-1) (s*256):=by unfold cnT;rw[hp];simp[cnP]
   unfold cnH;simp only at h5 ⊢;omega
 ·rcases List.mem_iff_getElem?.1 hg2 with⟨j,hj⟩;rcases Q2 hj with⟨rfl,rfl,_⟩|⟨hne,hj'⟩
  ·exact th
  ·exact h.th g2 (zE hj')
theorem HI.updT (h:HI H held s0)(hg:H.ths[t]?=some g){g':Th}{live':List (Int×Bk)}(cn:∀k x,cnV live' k x+cnT g' k x=cnV H.live k x+cnT g k x)(lk:(live'.map (·.1)).Nodup)(lv:∀e∈live',e∈H.live\/Lv held e)
 (gv:∀s a,g'.ph=some (.give s a)->Gv held s a) (th:ThI H.tb.length g'):HI {H with live:=live',ths:=H.ths.set t g'} held s0:=
 h.upd hg h.wi h.sim rfl rfl (λp hp _=>.inl hp) (λk x=>by have:=cn k x;omega) lk lv gv th
theorem Wef {A:AR}{x:Int}:VB A x=true↔0<=x/\A.f x.toNat≠0:=by
 unfold VB AR.f gf;simp
theorem WI.owner {W:Wd}(h:WI W){p:Pc}(hp:p∈W.held){x:Nat}(h1:p.addr<=x)(h2:x<p.addr+p.size):Yd W.ars (x:Int)=(p.k:Int):=by
 obtain⟨A,hA,_⟩:=h.hf p hp;have hpg:=h.page hp hA h1 h2;have hkl:=(gSi.1 hA).1;have own:∀(j:Nat) (B:AR),W.ars[j]?=some B->(VB B ((x:Int)/256)=true↔j=p.k):=λj B hB=>by
  have e:((x:Int)/256).toNat=x/256:=by omega
  rw[Wef,e];constructor
  ·rintro⟨_,hf⟩;exact h.one (x/256) j p.k B A hB hA hf (by omega)
  ·rintro rfl;rw[hA]at hB;cases hB;exact⟨by omega,by omega⟩
 unfold Yd;rw[zA (by omega)];have hf:W.ars.findIdx? (λA=>VB A ((x:Int)/256))=some p.k:=by
  rw[zAU];refine⟨hkl,(own p.k _ (gGe hkl)).2 rfl,λj hj=>?_⟩;have:=own j W.ars[j] (gGe (by omega));intro hx;have:=this.1 hx;omega
 rw[hf]
theorem HI.owner (h:HI H held s0){p:Pc}(hp:p∈held){x:Nat}(h1:p.addr<=x)(h2:x<p.addr+p.size):Yd H.ars (x:Int)=(p.k:Int):=h.wi.owner (W:=⟨H.tb,s0,H.ars,held⟩) hp h1 h2
theorem HI.owner0 (h:HI H held s0){p:Pc}(hp:p∈held):Yd H.ars (p.addr:Int)=(p.k:Int):=h.owner hp (zD _) (by have:=(h.wi.size_pos (W:=⟨H.tb,s0,H.ars,held⟩) hp).1;omega)
theorem HI.i63 (h:HI H held s0){k x:Int}(hu:Um held k x):I63 x/\0<=x/\0<=Yd H.ars x:=by
 obtain⟨p,hp,_,_,rfl⟩:=hu;have:=(h.wi.addr_lt (W:=⟨H.tb,s0,H.ars,held⟩) hp).1;refine⟨by unfold I63;omega,by omega,?_⟩;rw[h.owner0 hp];omega
end Go.Ar
namespace Go.Ar
open Go.Vc (mget mset mdel)
open Go.Bu (YT)
structure KS (s s':Sp):Prop where
 l:s'.st.length=s.st.length
 k:∀p,gf s.st p≠0->gf s'.st p≠0/\∀w,w/32=p->s'.wd w=s.wd w
theorem KS.refl (s:Sp):KS s s:=⟨rfl,λp hp=>⟨hp,λ_ _=>rfl⟩⟩
theorem KS.trans {a b c:Sp}(h:KS a b)(k:KS b c):KS a c:=⟨k.l.trans h.l,λp hp=>⟨(k.k p (h.k p hp).1).1,λw hw=>((k.k p (h.k p hp).1).2 w hw).trans ((h.k p hp).2 w hw)⟩⟩
variable {s s' sp sp' s0 s0':Sp}{A B:AR}{k:Nat}
theorem Sim.mz (h:Sim s s'):s'.st.map (λx=>decide (x=0))=s.st.map λx=>decide (x=0):=by
 refine zn λi=>?_;rw[za,za];have hz:=h.z i;unfold gf at hz;rw[zO,zO]at hz;by_cases hi:i<s.st.length
 ·have hi':i<s'.st.length:=by rw[h.l];exact hi
  rw[gGe hi,gGe hi']at hz ⊢;simp only[zBY]at hz;simp[hz]
 ·have hl:=h.l;rw[zV (by omega),zV (by omega)]
theorem Wlm {l l':List Nat}(h:l'.map (λx=>decide (x=0))=l.map λx=>decide (x=0))(a m:Nat)(f:Bool->Bool):((l'.drop a).take m).any (λx=>f (decide (x=0)))=((l.drop a).take m).any λx=>f (decide (x=0)):=by
 have e:∀l:List Nat,((l.drop a).take m).any (λx=>f (decide (x=0)))=(((l.map λx=>decide (x=0)).drop a).take m).any f:=λl=>by
  rw[←List.map_drop,←List.map_take,List.any_map];rfl
 rw[e,e,h]
theorem Sim.mapE (h:Sim s s')(a m:Int):mapE s' a m=mapE s a m:=by
 unfold Go.Ar.mapE;rw[h.l];have:=Wlm h.mz a.toNat m.toNat (λb=>!b);have e:∀l:List Nat,l.any (λx=>x != 0)=l.any λx=>!decide (x=0):=λl=>by
  refine congrArg l.any (funext λx=>?_);cases x<;>rfl
 rw[e,e,this]
theorem Sim.set (h:Sim s s'){a m v:Nat}(hl:a+m<=s.st.length):Sim (s.set a m v) (s'.set a m v):=by
 refine⟨by simp[Sp.set,QH,h.l],λp=>?_,?_⟩
 ·show gf (setR s'.st a (a+m) v) p=0↔gf (setR s.st a (a+m) v) p=0;rw[GQ (by rw[h.l];exact hl),GQ hl];split
  ·exact Iff.rfl
  ·exact h.z p
 ·show(λw=>if a*32<=w/\w<(a+m)*32 then 0 else s'.wd w)=_
  rw[h.w];rfl
theorem WkU {n:Nat}{a m:Int}(h:YT n a m=true):a.toNat+m.toNat<=n:=by
 by_cases h0:0<=a/\0<=m
 ·obtain⟨a,rfl⟩:=zi h0.1;obtain⟨m,rfl⟩:=zi h0.2;rw[iTn,iTn];exact(Vq.1 h).2
 ·exfalso;unfold YT at h;simp at h;omega
theorem Sim.mapS (h:Sim s s')(a m:Int):Sim (mapS s a m) (mapS s' a m):=by
 unfold Go.Ar.mapS;rw[h.mapE];split
 ·rename_i h0;refine h.set ?_;unfold Go.Ar.mapE at h0;split at h0
  ·rename_i hr;exact WkU hr
  ·simp at h0
 ·exact h
theorem WgB (s:Sp)(a m:Nat):KS s (mapS s (a:Int) (m:Int)):=by
 by_cases h:mapE s (a:Int) (m:Int)=0
 ·have hz:=HZ h;obtain⟨h1,h2,h3,_⟩:=Wf2 h;refine⟨h1,λp hp=>?_⟩;have hout:¬(a<=p/\p<a+m):=λhx=>hp (hz.2.2 p hx.1 hx.2);exact⟨by rw[h2,zA hout];exact hp,λw hw=>h3 w (by omega)⟩
 ·unfold mapS;rw[zA h];exact KS.refl s
theorem Sim.growStart (h:Sim s s')(size:Nat):growStart s' size=growStart s size:=by
 unfold Go.Ar.growStart;rw[h.l]
 congr 1
 funext x
 rw[h.mapE]
theorem Sim.getA (h:Sim s s')(A:AR)(m a no:Nat):(getA A s' m a no).1=(getA A s m a no).1/\(getA A s' m a no).2.1=(getA A s m a no).2.1/\Sim (getA A s m a no).2.2 (getA A s' m a no).2.2/\KS s' (getA A s' m a no).2.2:=by
 unfold Go.Ar.getA;split
 ·exact⟨rfl,rfl,h,KS.refl _⟩
 ·unfold VE;rw[h.growStart];cases hg:Go.Ar.growStart s (Qe (max m a))with
  | none=>exact⟨rfl,rfl,h,KS.refl _⟩
  | some x=>
   simp only;split
   ·exact⟨rfl,rfl,h.mapS _ _,WgB _ _ _⟩
   ·exact⟨rfl,rfl,h.mapS _ _,WgB _ _ _⟩
theorem Sim.growS (h:Sim s s')(A:AR)(k:Int):(growS A s' k).1=(growS A s k).1/\QR A s' k=QR A s k/\Sim (growS A s k).2 (growS A s' k).2/\KS s' (growS A s' k).2:=by
 unfold Go.Ar.growS QR;split
 ·split
  ·rename_i c ss _ _;obtain⟨h1,h2,h3,h4⟩:=h.getA A c.pages 1 (k.toNat+1);cases e1:Go.Ar.getA A s c.pages 1 (k.toNat+1)with
   | mk o1 r1=>cases e2:Go.Ar.getA A s' c.pages 1 (k.toNat+1)with
    | mk o2 r2=>
     obtain⟨a1,p1⟩:=r1;obtain⟨a2,p2⟩:=r2;rw[e1,e2]at h1 h2 h3;rw[e2]at h4;simp only at h1 h2 h3 h4;subst h1;subst h2;cases o2<;>exact⟨rfl,rfl,h3,h4⟩
  ·exact⟨rfl,rfl,h,KS.refl _⟩
 ·exact⟨rfl,rfl,h,KS.refl _⟩
theorem Sim.takeAS (h:Sim s s')(A:AR)(m a:Int):(takeAS A s' m a).1=(takeAS A s m a).1/\ZO A s' m a=ZO A s m a/\Zt A s' m a=Zt A s m a/\Sim (takeAS A s m a).2 (takeAS A s' m a).2/\KS s' (takeAS A s' m a).2:=by
 unfold Go.Ar.takeAS ZO Zt;split
 ·obtain⟨h1,h2,h3,h4⟩:=h.getA A m.toNat a.toNat 41;cases e1:Go.Ar.getA A s m.toNat a.toNat 41 with
  | mk o1 r1=>cases e2:Go.Ar.getA A s' m.toNat a.toNat 41 with
   | mk o2 r2=>
    obtain⟨a1,p1⟩:=r1;obtain⟨a2,p2⟩:=r2;rw[e1,e2]at h1 h2 h3;rw[e2]at h4;simp only at h1 h2 h3 h4;subst h1;subst h2;cases o2<;>exact⟨rfl,rfl,rfl,h3,h4⟩
 ·exact⟨rfl,rfl,rfl,h,KS.refl _⟩
variable {W:Wd}
theorem Wjx (h:WI W){cl:Int}{l:List Int}(ho:ownW W.held k cl l=true)(c x:Int):Um (W.held.filter λp=>!isOf k cl l p) c x↔Um W.held c x/\¬(c=cl/\x∈l):=by
 constructor
 ·rintro⟨p,hp,h1,h2,h3⟩;obtain⟨hp',hn⟩:=zH.1 hp;refine⟨⟨p,hp',h1,h2,h3⟩,?_⟩;rintro⟨rfl,hx⟩;obtain⟨q,hq,hqx⟩:=(QI.1 ho).1 x hx;obtain⟨a1,a2,a3,a4⟩:=QJ.1 hqx;obtain rfl:=h.same (p:=p) (q:=q) hp' hq (by omega);have:isOf k c l p=true:=Zr.2 ⟨a1,h2,by rw[h3];exact hx⟩;rw[this]at hn;cases hn
 ·rintro⟨⟨p,hp,h1,h2,h3⟩,hn⟩;refine⟨p,zH.2 ⟨hp,?_⟩,h1,h2,h3⟩;have:isOf k cl l p=false:=zAQ.2 λhx=>by
   obtain⟨_,b2,b3⟩:=Zr.1 hx;exact hn ⟨h2.symm.trans b2,by rw[←h3];exact b3⟩
  rw[this];rfl
theorem Wk1 {held:List Pc}{cl:Int}{l:List Int}(ho:ownW held k cl l=true):∀x∈l,Um held cl x:=λx hx=>by
 obtain⟨q,hq,hqx⟩:=(QI.1 ho).1 x hx;obtain⟨a1,a2,a3,a4⟩:=QJ.1 hqx;exact⟨q,hq,a4,a2,a3⟩
theorem Wiv (h:WI W){cl:Int}{l:List Int}(ho:ownW W.held k cl l=true)(c x:Int):Um (Uh W.held k cl l true) c x↔Um W.held c x/\¬(c=cl/\x∈l):=by
 constructor
 ·rintro⟨p,hp,h1,h2,h3⟩;obtain⟨q,hq,rfl⟩:=ZZ.1 hp;by_cases hof:isOf k cl l q=true
  ·rw[zB hof]at h1;cases h1
  ·rw[zA hof]at h1 h2 h3;refine⟨⟨q,hq,h1,h2,h3⟩,?_⟩;rintro⟨rfl,hx⟩;obtain⟨r,hr,hrx⟩:=(QI.1 ho).1 x hx;obtain⟨a1,a2,a3,a4⟩:=QJ.1 hrx;obtain rfl:=h.same hq hr (by omega);exact hof (Zr.2 ⟨a1,h2,by rw[h3];exact hx⟩)
 ·rintro⟨⟨p,hp,h1,h2,h3⟩,hn⟩;refine⟨p,ZZ.2 ⟨p,hp,?_⟩,h1,h2,h3⟩;rw[zA];intro hx;obtain⟨_,b2,b3⟩:=Zr.1 hx;exact hn ⟨h2.symm.trans b2,by rw[←h3];exact b3⟩
theorem Wgo {held:List Pc}{cl:Int}{l:List Int}:∀p∈Uh held k cl l true,p.moved=false->p∈held:=λp hp hm=>by
 obtain⟨q,hq,rfl⟩:=ZZ.1 hp;by_cases hof:isOf k cl l q=true
 ·rw[zB hof]at hm;cases hm
 ·rw[zA hof];exact hq
theorem Wjp (h:WI W)(hk:W.ars[k]?=some A){j:Nat}:(∀x∈Ye A (j:Int),∀c,¬Um W.held c x)/\(Ye A (j:Int)).Nodup/\(∀c x,Um (Uh W.held k j (Ye A (j:Int)) false) c x↔Um W.held c x\/(c=j/\x∈Ye A (j:Int))) ∧
 (∀p∈Uh W.held k j (Ye A (j:Int)) false,p.moved=false->p∈W.held\/∀c,¬Um W.held c (p.addr:Int)):=by
 obtain⟨o,e1,e2,e3,e4,e5⟩:=WbX (h.ga k A hk) (j:Int);rw[iTn]at e2;have pc:∀x∈Ye A (j:Int),∃q∈W.held,q.k=k/\q.cls=j/\(q.addr:Int)=x/\q.moved=true:=λx hx=>by
  have hin:=e2 x hx;obtain⟨t,ht,hxt⟩:=hin;have hjl:j<A.tb.length:=by rw[←(h.ga k A hk).lt];exact(gSi.1 ht).1
  obtain⟨c,ss,t',hc,ht'⟩:=(h.ga k A hk).cl hjl;have htk:TkA A j x:=(Q0 hc).2 ((h.ga k A hk).trt j c ss t hc ht x hxt);obtain⟨q,hq,q1,q2,q3⟩:=h.ht k A hk j x htk;obtain⟨_,_,_,_,h5⟩:=h.cls hq q2 (by rw[q1];exact hk);exact⟨q,hq,q1,q2,q3,h5.2 (by rw[q3];exact⟨t,ht,hxt⟩)⟩
 have new:∀x∈Ye A (j:Int),∀c,¬Um W.held c x:=λx hx c hu=>by
  obtain⟨q,hq,_,_,q3,q4⟩:=pc x hx;have:=(h.um hq hu q3).1;rw[q4]at this;cases this
 refine⟨new,e3,λc x=>⟨?_,?_⟩,λp hp hm=>?_⟩
 ·rintro⟨p,hp,h1,h2,h3⟩;obtain⟨q,hq,rfl⟩:=ZZ.1 hp;by_cases hof:isOf k (j:Int) (Ye A (j:Int)) q=true
  ·rw[zB hof]at h2 h3;obtain⟨_,b2,b3⟩:=Zr.1 hof;exact .inr ⟨h2.symm.trans b2,by rw[←h3];exact b3⟩
  ·rw[zA hof]at h1 h2 h3;exact .inl ⟨q,hq,h1,h2,h3⟩
 ·rintro(⟨p,hp,h1,h2,h3⟩|⟨rfl,hx⟩)
  ·refine⟨p,ZZ.2 ⟨p,hp,?_⟩,h1,h2,h3⟩;split
   ·rw[←h1]
   ·rfl
  ·obtain⟨q,hq,q1,q2,q3,q4⟩:=pc x hx;refine⟨{q with moved:=false},ZZ.2 ⟨q,hq,?_⟩,rfl,q2,q3⟩;rw[zB (Zr.2 ⟨q1,q2,by rw[q3];exact hx⟩)]
 ·obtain⟨q,hq,rfl⟩:=ZZ.1 hp;by_cases hof:isOf k (j:Int) (Ye A (j:Int)) q=true
  ·rw[zB hof];exact .inr (new _ (Zr.1 hof).2.2)
  ·rw[zA hof];exact .inl hq
theorem Wfl {tb:List Cls}{ars:List AR}{sp:Sp}{held new:List Pc}(h:WI ⟨tb,sp,ars,held++new⟩):∀p∈new,∀c,¬Um held c (p.addr:Int):=by
 rintro p hp c ⟨q,hq,_,_,h3⟩;have e:=h.same (p:=p) (q:=q) (zBL _ hp) (zAM _ hq) (by omega);have hn:=h.hk;simp only[zAD]at hn;rw[zAY]at hn;exact hn.2.2 q.key (zC.2 ⟨q,hq,rfl⟩) p.key (zC.2 ⟨p,hp,rfl⟩) (by rw[e])
theorem WiM {held new:List Pc}{cl:Int}{l:List Int}(h1:∀p∈new,p.moved=false/\p.cls=cl/\(p.addr:Int)∈l)(h2:∀x∈l,∃p∈new,(p.addr:Int)=x)(c x:Int):Um (held++new) c x↔Um held c x\/(c=cl/\x∈l):=by
 constructor
 ·rintro⟨p,hp,a1,a2,a3⟩;rcases zM.1 hp with hp|hp
  ·exact .inl ⟨p,hp,a1,a2,a3⟩
  ·obtain⟨_,b2,b3⟩:=h1 p hp;exact .inr ⟨a2.symm.trans b2,by rw[←a3];exact b3⟩
 ·rintro(⟨p,hp,a⟩|⟨rfl,hx⟩)
  ·exact⟨p,zAM _ hp,a⟩
  ·obtain⟨p,hp,e⟩:=h2 x hx;exact⟨p,zBL _ hp,(h1 p hp).1,(h1 p hp).2.1,e⟩
theorem Wfd {tb:List Cls}{ars:List AR}{sp:Sp}{held new:List Pc}(h:WI ⟨tb,sp,ars,held++new⟩):∀p∈held++new,p.moved=false->p∈held\/∀c,¬Um held c (p.addr:Int):=λp hp _=>by
 rcases zM.1 hp with hp|hp
 ·exact .inl hp
 ·exact .inr (Wfl h p hp)
theorem QT {ss:List SpA}:∀{i:Nat},YS ss i=none->∀k,k<i->∀s,ss[k]?=some s->¬s.many<s.tk.length
 | 0,_,k,hk,_,_=>by omega
 | i+1,h,k,hk,s,hs=>by
  unfold YS at h;by_cases hki:k=i
  ·subst hki;rw[hs]at h;simp only at h;intro hlt;rw[zB hlt]at h;split at h
   ·split at h
    ·split at h<;>cases h
    ·cases h
   ·cases h
  ·cases hi:ss[i]? with
   | none=>
    rw[hi]at h;exact QT h k (by omega) s hs
   | some x=>
    rw[hi]at h;simp only at h;split at h
    ·split at h
     ·split at h
      ·split at h<;>cases h
      ·cases h
     ·exact QT (by assumption) k (by omega) s hs
    ·exact QT h k (by omega) s hs
theorem Wfn (h:GA A)(hw:Ow A sp){j:Nat}(hE:QR A sp (j:Int)=0){w:Nat}(h1:1<=w):XZ (growS A sp (j:Int)).1 (j:Int) (w:Int)≠[]:=by
 rcases Gh h hw (j:Int)with⟨_,hn⟩|⟨j',c,ss,x,A1,sp1,hj,hk,hk1,_,e,hst,r1,r2,r3,_,hd,hS⟩
 ·exact(hn hE).elim
 ·obtain rfl:j=j':=by omega
  have hcl:Cl (growS A sp (j:Int)).1 j c (addS c ss x):=by
   rw[e];have hk2:Cl (useA A1 x c.pages (j+1)) j c ss:=hk1;exact VK hk2 _
  have hC:=hS.ga.cen j c _ hcl;have hmem:(⟨x,List.replicate c.n false⟩:SpA)∈addS c ss x:=Kj.2 (.inl rfl);have hck:(growS A sp (j:Int)).1.ck (j:Int)=true:=V7.2 ⟨j,rfl,hcl.lt⟩;unfold XZ ZS Kf;rw[hck,zB rfl,zA (show ¬((w:Int)<0) by omega),zB rfl,iTn,iTn,hcl.1,hcl.2];simp only;obtain⟨w,rfl⟩:∃v,w=v+1:=⟨w-1,by omega⟩;cases ho:oneS c (addS c ss x)with
  | some r=>
   obtain⟨y,ss'⟩:=r;rw[UH ho];simp
  | none=>
   exfalso;unfold oneS best at ho;obtain⟨l,hl⟩:=zL hmem;have hll:=(gSi.1 hl).1;have hlt:(⟨x,List.replicate c.n false⟩:SpA).many<(⟨x,List.replicate c.n false⟩:SpA).tk.length:=by
    have:=hC.ok.n_pos;simp[SpA.many,zFA];omega
   cases hb:YS (addS c ss x) (addS c ss x).length with
   | none=>exact QT hb l hll _ hl hlt
   | some i=>
    rw[hb]at ho;obtain⟨_,s,hs,hsm⟩:=Z4 hb;obtain⟨r,hr,_⟩:=U3 hsm;simp only[hs,hr]at ho;cases ho
end Go.Ar
namespace Go.Ar
open Go.Vc (mget mset mdel)
variable {H:Hw}{held:List Pc}{s0:Sp}{t k:Nat}{g:Th}{A:AR}{c:Cls}
theorem Zs {p:Ph}{H1:Hw}{g1:Th}{nx:Option Ph}{a e:Int}(ht:t<H.ths.length)(hs:Wp H t p=({H1 with ths:=H.ths.set t g1},nx,a,e)):ZX H t p = {H1 with ths:=H.ths.set t {g1 with ph:=nx}}:=by
 unfold ZX;rw[hs];show Hw.setT _ t _=_;rw[Ze (g:=g1) (by simp[ht])];simp only[zBC]
structure StI (H:Hw) (t:Nat) (p:Ph):Prop where
 ok:GL H t p
 hi:∃held s0,HI (ZX H t p) held s0
 ks:KS H.sp (ZX H t p).sp
theorem StI.mk' {p:Ph}(hg:H.ths[t]?=some g)(hl:g.hands.length<=41)(h1:Wd8 H t p){H':Hw}{held':List Pc}{s0':Sp}(e:ZX H t p=H')(h2:HI H' held' s0')(h3:KS H.sp H'.sp):StI H t p:=
 ⟨⟨h1,λg' hg'=>by rw[hg]at hg';cases hg';omega⟩,⟨held',s0',by rw[e];exact h2⟩,by rw[e];exact h3⟩
def Rq (tb:List Cls)(g:Th):Ph->Int->Int->Prop
 | .take k,cl,sz=>cl=k/\∃c,tb[k]?=some c/\sz=c.size
 | .transfer k _,cl,sz=>cl=k/\∃c,tb[k]?=some c/\sz=c.size
 | .central k _,cl,sz=>cl=k/\∃c,tb[k]?=some c/\sz=c.size
 | .grow k _,cl,sz=>cl=k/\∃c,tb[k]?=some c/\sz=c.size
 | .fill,cl,sz=>∃k xs r c,g.hands=(k,xs)::r/\cl=k/\tb[k]?=some c/\sz=c.size
 | .large m,cl,sz=>cl = -1/\sz=((m*256:Nat):Int)
 | _,_,_=>False
def Ht (H:Hw)(t:Nat):Ph->Nat
 | .take _=>5
 | .transfer _ _=>4
 | .central k w=>if XZ (H.arn t) (k:Int) (w:Int)=[]then 3 else 1
 | .grow _ _=>2
 | _=>0
def EfM (H:Hw)(t:Nat)(p:Ph)(cl sz:Int):Prop:=
 (∃p' g',(Wp H t p).2.1=some p'/\(ZX H t p).live=H.live/\(ZX H t p).ths[t]?=some g'/\Rq H.tb g' p' cl sz/\Ht (ZX H t p) t p'<Ht H t p) ∨
 ((Wp H t p).2.1=none/\(Wp H t p).2.2.2≠0/\(Wp H t p).2.2.1=0/\(ZX H t p).live=H.live) ∨
 ((Wp H t p).2.1=none/\(Wp H t p).2.2.2=0/\mget H.live (Wp H t p).2.2.1=none/\(ZX H t p).live=mset H.live (Wp H t p).2.2.1 ((Wp H t p).2.2.1,sz,cl,Yd (ZX H t p).ars (Wp H t p).2.2.1))
theorem HI.mem (h:HI H held s0)(hg:H.ths[t]?=some g):g∈H.ths:=zE hg
theorem HI.own_lt (h:HI H held s0)(t:Nat):H.own t<H.ars.length:=zDU _ (by have:=h.a1;omega)
theorem HI.arn (h:HI H held s0)(t:Nat):H.ars[H.own t]?=some (H.arn t):=by
 have hl:=gGe (h.own_lt t);rw[Wfr hl];exact hl
theorem HI.tb40 (h:HI H held s0):H.tb.length<=40:=by
 have hA:=h.arn 0;have:=(h.wi.ga _ _ hA).tb;rw[h.wi.tb _ _ hA]at this;exact this
theorem HI.cls (h:HI H held s0)(hk:k<H.tb.length):∃c,H.tb[k]?=some c/\c.ok:=⟨H.tb[k],gGe hk,h.ok _ (zj hk)⟩
theorem ThI.li {m:Nat}(h:ThI m g)(hk:k<m):∃l,g.ls[k]?=some l/\g.li k=l/\LiOk l/\l.os.length<=128:=by
 have hl:=gGe (l:=g.ls) (i:=k) (by rw[h.ll];exact hk);have:=h.lo _ (zj (by rw[h.ll];exact hk));exact⟨_,hl,Wie hl,this.1,this.2⟩
theorem ThI.setL {m:Nat}(h:ThI m g){l':Li}(h1:LiOk l')(h2:l'.os.length<=128):(g.ls.set k l').length=m/\∀l∈g.ls.set k l',LiOk l/\l.os.length<=128:=by
 refine⟨by rw[zBQ];exact h.ll,λl hl=>?_⟩;rcases zFF hl with hl|rfl
 ·exact h.lo l hl
 ·exact⟨h1,h2⟩
theorem Wlr {ls:List Li}{l':Li}{hs:List Bt}{ph:Option Ph}(hk:k<ls.length):(⟨ls.set k l',hs,ph⟩:Th).li k=l':=by
 unfold Th.li;rw[Wc3 l' k hk,zB rfl]
theorem HI.lvOf (h:HI H held s0){y:Int}(hu:Um held (k:Int) y)(hc:H.tb[k]?=some c):Lv held (y,(y,(c.size:Int),(k:Int),Yd H.ars y)):=by
 obtain⟨p,hp,h1,h2,rfl⟩:=hu;obtain⟨A,hA,_⟩:=h.wi.hf p hp;obtain⟨c',hc',h3,_⟩:=h.wi.cls hp h2 hA;rw[h.wi.tb _ _ hA]at hc';have hc'':H.tb[k]?=some c':=hc';rw[hc]at hc'';cases hc'';exact⟨rfl,p,hp,h1,h2,rfl,by rw[h3],by rw[h.owner0 hp]⟩
theorem Ha {ls:List Li}{l:Li}(hl:ls[k]?=some l)(l':Li)(k' x:Int):cnL (ls.set k l') k' x+(if(k:Int)=k' then l.os.count x else 0)=cnL ls k' x+(if(k:Int)=k' then l'.os.count x else 0):=by
 have:=WjR l' (gSi.1 hl).1 k' x;rw[zO,hl]at this;exact this
theorem Wju {ls:List Li}{l:Li}(hl:ls[k]?=some l)(x:Int):cnL ls (k:Int) x=l.os.count x:=by
 rw[Hs,zO,hl];rfl
theorem WjS (h:HI H held s0)(hg:H.ths[t]?=some g)(hph:g.ph=some (.take k)){cl sz:Int}(hr:Rq H.tb g (.take k) cl sz):StI H t (.take k)/\EfM H t (.take k) cl sz:=by
 have ht:=(gSi.1 hg).1;have hth:=h.th g (h.mem hg);obtain⟨hh,hk⟩:g.hands=[]/\k<H.tb.length:=by have:=hth.ph;unfold PhI at this;rw[hph]at this;exact this
 obtain⟨rfl,c,hc,rfl⟩:=hr;have hok:=h.ok c (zE hc);obtain⟨l,hl,hli,hlo,hlm⟩:=hth.li hk;have hlo':=Wc1 hok hlo;have htg:=UK hg;cases hT:Qk c l with
 | mk o l'=>
  rw[hT]at hlo';cases o with
  | some y=>
   have hs:Wp H t (.take k)=({{H with live:=mset H.live y (y,(c.size:Int),(k:Int),Yd H.ars y)}with ths:=H.ths.set t {g with ls:=g.ls.set k l'}},none,y,0):=by
    simp only[Wp,htg,KT hc,hli,hT,Kq,Ze hg,Th.setL]
   have e:=Zs ht hs;have hcy:1<=cnT g (k:Int) y:=by
    have:=WdB hT y;rw[zGN]at this;unfold cnT;rw[Wju hl];omega
   have hu:=h.um_t (h.mem hg) hcy;have hm:=h.not_live (h.mem hg) hcy;have hlen:l'.os.length<=128:=by
    have:l'.os.length<=l.os.length:=by
     unfold Qk at hT;split at hT
     ·cases hT
     ·cases hT;simp
    omega
   obtain⟨ll,lo⟩:=hth.setL (k:=k) hlo' hlen;have hi:=h.updT hg (g':={g with ls:=g.ls.set k l',ph:=none}) (live':=mset H.live y (y,(c.size:Int),(k:Int),Yd H.ars y)) (λk' x=>by
    rw[WaW _ hm];have h1:=Ha hl l' k' x;have h2:=WdB hT x;unfold cnT;rw[hph];simp only[cnP];by_cases hkk:(k:Int)=k'
    ·simp only[hkk,zP]at h1 ⊢;omega
    ·simp only[hkk,zq]at h1 ⊢;omega)
    (Go.Vc.mset_keys h.lk) (λe' he=>by
     rcases(U9 hm).1 he with he|rfl
     ·exact .inl he
     ·exact .inr (h.lvOf hu hc))
    (λs a hp=>by cases hp) ⟨ll,lo,hth.hb,hth.hl,by unfold PhI;exact hh⟩
   refine⟨StI.mk' hg hth.hl ⟨hk,λy' l'' hy=>?_⟩ e hi (KS.refl _),.inr (.inr ?_)⟩
   ·rw[htg,hli,KT hc,hT]at hy;cases hy;exact(h.i63 hu).1
   ·rw[e,hs];exact⟨rfl,rfl,hm,rfl⟩
  | none=>
   have hs:Wp H t (.take k)=({H with ths:=H.ths.set t {g with ls:=g.ls.set k l'}},some (.transfer k (Hy c l')),0,0):=by
    simp only[Wp,htg,KT hc,hli,hT,Ze hg,Th.setL]
   have e:=Zs ht hs;obtain⟨o1,o2⟩:=WeV hT;obtain⟨ll,lo⟩:=hth.setL (k:=k) hlo' (by rw[o2];simp);have hlim:=hlo'.lim1;have hw:1<=Hy c l'/\Hy c l'<=32:=by
    unfold Cls.ok at hok;unfold Hy;simp only at hlim;omega
   have hi:=h.updT hg (g':={g with ls:=g.ls.set k l',ph:=some (.transfer k (Hy c l'))}) (live':=H.live) (λk' x=>by
    have h1:=Ha hl l' k' x;rw[o1,o2]at h1;unfold cnT;rw[hph];simp only[cnP];omega) h.lk (λe' he=>.inl he) (λs a hp=>by cases hp) ⟨ll,lo,hth.hb,hth.hl,by
     unfold PhI;exact⟨hh,hk,by rw[Wlr (by rw[hth.ll];exact hk)];exact o2,hw⟩⟩
   refine⟨StI.mk' hg hth.hl ⟨hk,λy' l'' hy=>?_⟩ e hi (KS.refl _),.inl ?_⟩
   ·rw[htg,hli,KT hc,hT]at hy;cases hy
   ·rw[e,hs];exact⟨_,_,rfl,rfl,zK ht,⟨rfl,c,hc,rfl⟩,by simp[Ht]⟩
theorem UJ (h:GA A)(h0:Zu A (k:Int)=0)(hc:A.tb[k]?=some c):∃x xs,Ye A (k:Int)=x::xs/\xs.length+1=c.batch:=by
 have hv:Ye A (k:Int)=(match A.tra[k]? with
  | some t=>t.bs.getLast?.getD []
  | none=>[]):=by unfold Ye;rw[zB h0,iTn];rfl
 unfold Zu at h0;rw[iTn]at h0;split at h0
 ·split at h0
  ·rename_i t ht;split at h0
   ·cases h0
   ·rename_i hb;rw[ht]at hv;simp only at hv;have hl:t.bs.getLast?=some (t.bs.getLast hb):=List.getLast?_eq_some_getLast hb;rw[hl]at hv;simp only[zBY]at hv;have:=h.trb k c t hc ht _ (List.getLast_mem hb);rw[←hv]at this;have hok:=h.cen;cases hx:Ye A (k:Int)with
    | nil=>
     rw[hx]at this;have hkl:k<A.tb.length:=(gSi.1 hc).1;obtain⟨c',ss,_,hcl,_⟩:=h.cl hkl;have hcc:c'=c:=Option.some.inj (hcl.1.symm.trans hc);have:=(h.cen k c' ss hcl).ok;unfold Cls.ok at this;simp at *;subst hcc;omega
    | cons x xs=>exact⟨x,xs,rfl,by rw[hx]at this;simpa using this⟩
  ·cases h0
 ·cases h0
theorem Wcm (h:HI H held s0)(hg:H.ths[t]?=some g){w:Nat}(hph:g.ph=some (.transfer k w)){cl sz:Int}(hr:Rq H.tb g (.transfer k w) cl sz):StI H t (.transfer k w)/\EfM H t (.transfer k w) cl sz:=by
 have ht:=(gSi.1 hg).1;have hth:=h.th g (h.mem hg);obtain⟨hh,hk,hos,hw⟩:g.hands=[]/\k<H.tb.length/\(g.li k).os=[]/\1<=w/\w<=32:=by have:=hth.ph;unfold PhI at this;rw[hph]at this;exact this
 obtain⟨rfl,c,hc,rfl⟩:=hr;have hok:=h.ok c (zE hc);have hok':=hok;unfold Cls.ok at hok';have hA:=h.arn t;have ga:=h.wi.ga _ _ hA;have hcA:(H.arn t).tb[k]?=some c:=by rw[h.wi.tb _ _ hA];exact hc
 have hP:Wd8 H t (.transfer k w):=⟨hk,λh0=>by
  obtain⟨x,xs,e,_⟩:=UJ ga h0 hcA;rw[e];simp⟩
 by_cases hcase:w=c.batch/\Zu (H.arn t) (k:Int)=0
 ·obtain⟨rfl,h0⟩:=hcase;obtain⟨x,xs,hv,hxl⟩:=UJ ga h0 hcA;have hs:Wp H t (.transfer k c.batch)=({H.setA (H.own t) (Zf (H.arn t) (k:Int))with ths:=H.ths.set t {g with hands:=[(k,x::xs)]}},some .fill,0,0):=by
   simp only[Wp,KT hc,zP,h0,Z1,hv];rw[Ze (g:=g) (by exact hg),hh];rfl
  have e:=Zs (H1:=H.setA (H.own t) (Zf (H.arn t) (k:Int))) ht hs;obtain⟨u1,u2,u3,u4⟩:=Wjp h.wi hA (j:=k);have wi:=h.wi.fromT hA (k:Int);have hi:=h.upd hg (g':={g with hands:=[(k,x::xs)],ph:=some .fill}) (live':=H.live) wi h.sim rfl (by simp[Wd.put]) u4 (λk' y=>by
   rw[Wch u2 (λy hy=>u1 y hy _) u3,hv];unfold cnT;rw[hph,hh];simp only[cnP,QC,Ku];omega) h.lk (λe' he=>.inl he) (λs a hp=>by cases hp) ⟨hth.ll,hth.lo,λb hb=>by
    simp only[zR]at hb;subst hb;exact⟨hk,by simp,by simp;omega⟩,by simp,by
    unfold PhI;exact⟨k,x,xs,rfl,hk,hos,by omega⟩⟩
  refine⟨StI.mk' hg hth.hl hP e hi (KS.refl _),.inl ?_⟩;rw[e,hs];exact⟨_,_,rfl,rfl,zK ht,⟨k,x::xs,[],c,rfl,rfl,hc,rfl⟩,by simp[Ht]⟩
 ·have hs:Wp H t (.transfer k w)=({H with ths:=H.ths.set t g},some (.central k w),0,0):=by
   have:H.ths.set t g=H.ths:=ZC hg;rw[this];simp only[Wp,KT hc];split
   ·split
    ·exact(hcase ⟨by assumption,by assumption⟩).elim
    ·rfl
   ·rfl
  have e:=Zs ht hs;have hi:=h.updT hg (g':={g with ph:=some (.central k w)}) (live':=H.live) (λk' x=>by
   unfold cnT;rw[hph];simp only[cnP]) h.lk (λe' he=>.inl he) (λs a hp=>by cases hp) ⟨hth.ll,hth.lo,hth.hb,hth.hl,by
    unfold PhI;exact⟨hh,hk,hos,hw⟩⟩
  refine⟨StI.mk' hg hth.hl hP e hi (KS.refl _),.inl ?_⟩;rw[e,hs];refine⟨_,_,rfl,rfl,zK ht,⟨rfl,c,hc,rfl⟩,?_⟩;simp only[Ht];split<;>omega
theorem WbB (h:GA A)(j w:Nat):(XZ A (j:Int) (w:Int)).length<=w:=by
 unfold XZ;split
 ·rename_i h0;have hck:A.ck (j:Int)=true:=by
   unfold ZS at h0;split at h0
   ·assumption
   ·cases h0
  obtain⟨i,hi,hj⟩:=V7.1 hck;obtain⟨c,ss,t,hk,ht⟩:=h.cl hj;have:i=j:=by omega
  subst this;unfold Kf;rw[iTn,iTn,hk.1,hk.2];exact(Ug w (h.cen i c ss hk)).2.2.1
 ·simp
theorem WgV (H:Hw)(t:Nat)(B:AR)(h:H.own t<H.ars.length)(sp:Sp)(ths:List Th):Hw.arn {H.setA (H.own t) B with sp:=sp,ths:=ths} t=B:=by
 refine Wfr ?_;have:Hw.own {H.setA (H.own t) B with sp:=sp,ths:=ths} t=H.own t:=by unfold Hw.own Hw.setA;simp
 rw[this];simp[Hw.setA,h]
theorem Wem (h:HI H held s0)(hg:H.ths[t]?=some g){w:Nat}(hph:g.ph=some (.central k w)){cl sz:Int}(hr:Rq H.tb g (.central k w) cl sz):StI H t (.central k w)/\EfM H t (.central k w) cl sz:=by
 have ht:=(gSi.1 hg).1;have hth:=h.th g (h.mem hg);obtain⟨hh,hk,hos,hw⟩:g.hands=[]/\k<H.tb.length/\(g.li k).os=[]/\1<=w/\w<=32:=by have:=hth.ph;unfold PhI at this;rw[hph]at this;exact this
 obtain⟨rfl,c,hc,rfl⟩:=hr;have hA:=h.arn t;have ga:=h.wi.ga _ _ hA;have wi:=h.wi.from hA (k:Int) (w:Int);have hvl:=WbB ga k w;have hnd:=(Wad ga (k:Int) (w:Int)).2.2.1;cases hv:XZ (H.arn t) (k:Int) (w:Int)with
 | nil=>
  have hs:Wp H t (.central k w)=({H.setA (H.own t) (Yg (H.arn t) (k:Int) (w:Int))with ths:=H.ths.set t g},some (.grow k w),0,0):=by
   have:H.ths.set t g=H.ths:=ZC hg;rw[this];simp only[Wp,hv,zP,Hw.setA]
  have e:=Zs (H1:=H.setA (H.own t) (Yg (H.arn t) (k:Int) (w:Int))) ht hs;rw[hv]at wi;simp only[zBX,zAL]at wi;have hi:=h.upd hg (g':={g with ph:=some (.grow k w)}) (live':=H.live) wi h.sim rfl (by simp[Wd.put]) (λp hp _=>.inl hp) (λk' y=>by
   unfold cnT;rw[hph];simp only[cnP]) h.lk (λe' he=>.inl he) (λs a hp=>by cases hp) ⟨hth.ll,hth.lo,hth.hb,hth.hl,by
    unfold PhI;exact⟨hh,hk,hos,hw⟩⟩
  refine⟨StI.mk' hg hth.hl trivial e hi (KS.refl _),.inl ?_⟩;rw[e,hs];exact⟨_,_,rfl,rfl,zK ht,⟨rfl,c,hc,rfl⟩,by simp[Ht,hv]⟩
 | cons v vs=>
  have hs:Wp H t (.central k w)=({H.setA (H.own t) (Yg (H.arn t) (k:Int) (w:Int))with ths:=H.ths.set t {g with hands:=[(k,(v::vs).map λ(x:Nat)=>(x:Int))]}},some .fill,0,0):=by
   simp only[Wp,hv,Z1];rw[zA (by simp),Ze (g:=g) (by exact hg),hh];rfl
  have e:=Zs (H1:=H.setA (H.own t) (Yg (H.arn t) (k:Int) (w:Int))) ht hs;rw[hv]at wi hvl hnd;have hnd':((v::vs).map λ(x:Nat)=>(x:Int)).Nodup:=List.Pairwise.map (R:=(· ≠ ·)) _ (λa b hab e=>hab (by omega)) hnd;have app:=WiM (held:=held) (new:=(v::vs).map λy=>(⟨H.own t,(k:Int),y,szOf H.tb (k:Int),false⟩:Pc)) (cl:=(k:Int)) (l:=(v::vs).map λ(x:Nat)=>(x:Int)) (λp hp=>by
   obtain⟨y,hy,rfl⟩:=zC.1 hp;exact⟨rfl,rfl,zC.2 ⟨y,hy,rfl⟩⟩) λx hx=>by
   obtain⟨y,hy,rfl⟩:=zC.1 hx;exact⟨_,zC.2 ⟨y,hy,rfl⟩,rfl⟩
  have new:=Wfl wi;have hi:=h.upd hg (g':={g with hands:=[(k,(v::vs).map λ(x:Nat)=>(x:Int))],ph:=some .fill}) (live':=H.live) wi h.sim rfl (by simp[Wd.put]) (Wfd wi) (λk' y=>by
   rw[Wch hnd' (λy hy=>by
    obtain⟨z,hz,rfl⟩:=zC.1 hy;exact new ⟨H.own t,(k:Int),z,szOf H.tb (k:Int),false⟩ (zC.2 ⟨z,hz,rfl⟩) _) app]
   unfold cnT;rw[hph,hh];simp only[cnP,QC,Ku];omega) h.lk (λe' he=>.inl he) (λs a hp=>by cases hp) ⟨hth.ll,hth.lo,λb hb=>by
    simp only[zR]at hb;subst hb;exact⟨hk,by simp,by simp at hvl ⊢;omega⟩,by simp,by
    unfold PhI;exact⟨k,(v:Int),vs.map λ(x:Nat)=>(x:Int),rfl,hk,hos,by simp at hvl ⊢;omega⟩⟩
  refine⟨StI.mk' hg hth.hl trivial e hi (KS.refl _),.inl ?_⟩;rw[e,hs];refine⟨_,_,rfl,rfl,zK ht,⟨k,_,[],c,rfl,rfl,hc,rfl⟩,?_⟩;simp[Ht,hv]
theorem WjO (h:HI H held s0)(hg:H.ths[t]?=some g){w:Nat}(hph:g.ph=some (.grow k w)){cl sz:Int}(hr:Rq H.tb g (.grow k w) cl sz):StI H t (.grow k w)/\EfM H t (.grow k w) cl sz:=by
 have ht:=(gSi.1 hg).1;have hth:=h.th g (h.mem hg);obtain⟨hh,hk,hos,hw⟩:g.hands=[]/\k<H.tb.length/\(g.li k).os=[]/\1<=w/\w<=32:=by have:=hth.ph;unfold PhI at this;rw[hph]at this;exact this
 obtain⟨rfl,c,hc,rfl⟩:=hr;have hA:=h.arn t;have ga:=h.wi.ga _ _ hA;obtain⟨e1,e2,e3,e4⟩:=h.sim.growS (H.arn t) (k:Int);have wi:=h.wi.grow hA (k:Int);by_cases h0:QR (H.arn t) H.sp (k:Int)=0
 ·have hs:Wp H t (.grow k w)=({{H.setA (H.own t) (growS (H.arn t) H.sp (k:Int)).1 with sp:=(growS (H.arn t) H.sp (k:Int)).2}with ths:=H.ths.set t g},some (.central k w),0,0):=by
   have:H.ths.set t g=H.ths:=ZC hg;rw[this];simp only[Wp,h0,zP,Hw.setA]
  have e:=Zs (H1:={H.setA (H.own t) (growS (H.arn t) H.sp (k:Int)).1 with sp:=(growS (H.arn t) H.sp (k:Int)).2}) ht hs;have hroom:=Wfn ga (h.wi.ow _ _ hA) (j:=k) (by rw[←e2];exact h0) hw.1;rw[show(Wd.mk H.tb s0 H.ars held).sp=s0 from rfl,←e1]at hroom;rw[show(Wd.mk H.tb s0 H.ars held).sp=s0 from rfl,←e1]at wi;have hi:=h.upd hg (g':={g with ph:=some (.central k w)}) (live':=H.live) wi e3 e4.l (by simp[Wd.put]) (λp hp _=>.inl hp) (λk' y=>by
   unfold cnT;rw[hph];simp only[cnP]) h.lk (λe' he=>.inl he) (λs a hp=>by cases hp) ⟨hth.ll,hth.lo,hth.hb,hth.hl,by
    unfold PhI;exact⟨hh,hk,hos,hw⟩⟩
  refine⟨StI.mk' hg hth.hl trivial e hi e4,.inl ?_⟩;rw[e,hs];refine⟨_,_,rfl,rfl,zK ht,⟨rfl,c,hc,rfl⟩,?_⟩;have:=WgV H t (growS (H.arn t) H.sp (k:Int)).1 (h.own_lt t) (growS (H.arn t) H.sp (k:Int)).2 (H.ths.set t {g with ph:=some (.central k w)});simp only[Ht];rw[this,zA hroom];omega
 ·have hs:Wp H t (.grow k w)=({{H.setA (H.own t) (growS (H.arn t) H.sp (k:Int)).1 with sp:=(growS (H.arn t) H.sp (k:Int)).2}with ths:=H.ths.set t g},none,0,QR (H.arn t) H.sp (k:Int)):=by
   have:H.ths.set t g=H.ths:=ZC hg;rw[this];simp only[Wp,h0,zq,Hw.setA]
  have e:=Zs (H1:={H.setA (H.own t) (growS (H.arn t) H.sp (k:Int)).1 with sp:=(growS (H.arn t) H.sp (k:Int)).2}) ht hs;rw[show(Wd.mk H.tb s0 H.ars held).sp=s0 from rfl,←e1]at wi;have hi:=h.upd hg (g':={g with ph:=none}) (live':=H.live) wi e3 e4.l (by simp[Wd.put]) (λp hp _=>.inl hp) (λk' y=>by
   unfold cnT;rw[hph];simp only[cnP]) h.lk (λe' he=>.inl he) (λs a hp=>by cases hp) ⟨hth.ll,hth.lo,hth.hb,hth.hl,by
    unfold PhI;exact hh⟩
  refine⟨StI.mk' hg hth.hl trivial e hi e4,.inr (.inl ?_)⟩;rw[e,hs];exact⟨rfl,h0,rfl,rfl⟩
theorem Wjq (h:HI H held s0)(hg:H.ths[t]?=some g)(hph:g.ph=some .fill){cl sz:Int}(hr:Rq H.tb g .fill cl sz):StI H t .fill/\EfM H t .fill cl sz:=by
 have ht:=(gSi.1 hg).1;have hth:=h.th g (h.mem hg);obtain⟨k,x,xs,hh,hk,hos,hxl⟩:∃k x xs,g.hands=[(k,x::xs)]/\k<H.tb.length/\(g.li k).os=[]/\xs.length<=128:=by have:=hth.ph;unfold PhI at this;rw[hph]at this;exact this
 obtain⟨k',ys,r,c,hh',rfl,hc,rfl⟩:=hr;rw[hh]at hh';obtain⟨hkk, -⟩:=List.cons.inj hh';obtain rfl:k=k':=congrArg Prod.fst hkk;obtain⟨l,hl,hli,hlo,hlm⟩:=hth.li hk;have htg:=UK hg;rw[hli]at hos;have hadd:(addL xs.reverse l).os=xs.reverse:=by unfold addL;rw[hos,zA (by simp;omega)];simp
 have hs:Wp H t .fill=({{H with live:=mset H.live x (x,(c.size:Int),(k:Int),Yd H.ars x)}with ths:=H.ths.set t {ls:=g.ls.set k (addL xs.reverse l),hands:=[],ph:=g.ph}},none,x,0):=by
  simp only[Wp,htg,hh,KT hc,Kq,Ze hg,hli]
 have e:=Zs ht hs;have hcx:1<=cnT g (k:Int) x:=by
  unfold cnT;rw[hh,QC,zB rfl];have:1<=(x::xs).count x:=zGM.2 (by simp);simp only;omega
 have hu:=h.um_t (h.mem hg) hcx;have hm:=h.not_live (h.mem hg) hcx;obtain⟨ll,lo⟩:=hth.setL (k:=k) (Wa5 (xs:=xs.reverse) hlo) (by rw[hadd];simp;omega);have hi:=h.updT hg (g':={ls:=g.ls.set k (addL xs.reverse l),hands:=[],ph:=none}) (live':=mset H.live x (x,(c.size:Int),(k:Int),Yd H.ars x)) (λk' y=>by
  rw[WaW _ hm];have h1:=Ha hl (addL xs.reverse l) k' y;rw[hos,hadd,List.count_reverse,List.count_nil]at h1;have h2:(x::xs).count y=[x].count y+xs.count y:=zDP (l₁:=[x]) (l₂:=xs);unfold cnT;rw[hph,hh];simp only[cnP,QC,Ku];by_cases hkk:(k:Int)=k'
  ·simp only[hkk,zP]at h1 ⊢;omega
  ·simp only[hkk,zq]at h1 ⊢;omega)
  (Go.Vc.mset_keys h.lk) (λe' he=>by
   rcases(U9 hm).1 he with he|rfl
   ·exact .inl he
   ·exact .inr (h.lvOf hu hc))
  (λs a hp=>by cases hp) ⟨ll,lo,λb hb=>by simp at hb,by simp,by unfold PhI;rfl⟩
 refine⟨StI.mk' hg hth.hl ⟨k,x,xs,[],by rw[htg];exact hh,hk,(h.i63 hu).1,by rw[htg,hli,hos];simp;omega⟩ e hi (KS.refl _),.inr (.inr ?_)⟩;rw[e,hs];exact⟨rfl,rfl,hm,rfl⟩
theorem Whv (h:HI H held s0)(hg:H.ths[t]?=some g){m:Nat}(hph:g.ph=some (.large m)){cl sz:Int}(hr:Rq H.tb g (.large m) cl sz):StI H t (.large m)/\EfM H t (.large m) cl sz:=by
 have ht:=(gSi.1 hg).1;have hth:=h.th g (h.mem hg);obtain⟨hh,hm1,hm2⟩:g.hands=[]/\1<=m/\m<=64:=by have:=hth.ph;unfold PhI at this;rw[hph]at this;exact this
 obtain⟨rfl,rfl⟩:=hr;have hA:=h.arn t;have ga:=h.wi.ga _ _ hA;obtain⟨e1,e2,e5,e3,e4⟩:=h.sim.takeAS (H.arn t) (m:Int) 1;have wi:=h.wi.takeP hA (m:Int) 1;rw[show(Wd.mk H.tb s0 H.ars held).sp=s0 from rfl,←e1,←e2,←e5]at wi;by_cases h0:ZO (H.arn t) H.sp (m:Int) 1=0
 ·rw[zB h0]at wi;have hnew:=Wfl wi;have happ:=WiM (held:=held) (new:=[(⟨H.own t, -1,Zt (H.arn t) H.sp (m:Int) 1*256,(m:Int).toNat*256,false⟩:Pc)]) (cl:=-1) (l:=[((Zt (H.arn t) H.sp (m:Int) 1*256:Nat):Int)]) (λp hp=>by
   simp only[zR]at hp;subst hp;exact⟨rfl,rfl,by simp⟩) λx hx=>by
   simp only[zR]at hx;subst hx;exact⟨_,zR.2 rfl,rfl⟩
  have hpm:(⟨H.own t, -1,Zt (H.arn t) H.sp (m:Int) 1*256,(m:Int).toNat*256,false⟩:Pc)∈held++[(⟨H.own t, -1,Zt (H.arn t) H.sp (m:Int) 1*256,(m:Int).toNat*256,false⟩:Pc)]:=by simp
  have hsz:=wi.size_pos hpm;have hadr:=wi.addr_lt hpm;have how:=wi.owner hpm (x:=Zt (H.arn t) H.sp (m:Int) 1*256) (zD _) (by simp only at hsz ⊢;omega);generalize hV:Zt (H.arn t) H.sp (m:Int) 1=V at *;have hmn:mget H.live ((V*256:Nat):Int)=none:=h.not_um λk' hu=>hnew _ (zR.2 rfl) k' hu;have hs:Wp H t (.large m)=({{H.setA (H.own t) (takeAS (H.arn t) H.sp (m:Int) 1).1 with sp:=(takeAS (H.arn t) H.sp (m:Int) 1).2,live:=mset H.live ((V*256:Nat):Int) (((V*256:Nat):Int),((m*256:Nat):Int), -1,Yd (H.ars.set (H.own t) (takeAS (H.arn t) H.sp (m:Int) 1).1) ((V*256:Nat):Int))}with ths:=H.ths.set t g},none,((V*256:Nat):Int),0):=by
   have:H.ths.set t g=H.ths:=ZC hg;rw[this];simp only[Wp,h0,zP,Hw.setA,Kq,hV]
  have e:=Zs (H1:={H.setA (H.own t) (takeAS (H.arn t) H.sp (m:Int) 1).1 with sp:=(takeAS (H.arn t) H.sp (m:Int) 1).2,live:=mset H.live ((V*256:Nat):Int) (((V*256:Nat):Int),((m*256:Nat):Int), -1,Yd (H.ars.set (H.own t) (takeAS (H.arn t) H.sp (m:Int) 1).1) ((V*256:Nat):Int))}) ht hs;have hi:=h.upd hg (g':={g with ph:=none}) (live':=mset H.live ((V*256:Nat):Int) (((V*256:Nat):Int),((m*256:Nat):Int), -1,Yd (H.ars.set (H.own t) (takeAS (H.arn t) H.sp (m:Int) 1).1) ((V*256:Nat):Int))) wi e3 e4.l (by simp[Wd.put]) (Wfd wi) (λk' y=>by
   rw[WaW _ hmn,Wch (l:=[((V*256:Nat):Int)]) (cl:=-1) (by simp) (λy hy=>by
    simp only[zR]at hy;subst hy;exact hnew _ (zR.2 rfl) _) happ]
   unfold cnT;rw[hph];simp only[cnP];omega) (Go.Vc.mset_keys h.lk) (λe' he=>by
    rcases(U9 hmn).1 he with he|rfl
    ·exact .inl he
    ·refine .inr ⟨rfl,_,hpm,rfl,rfl,rfl,?_,?_⟩
     ·simp
     ·exact how) (λs a hp=>by cases hp) ⟨hth.ll,hth.lo,hth.hb,hth.hl,by
    unfold PhI;exact hh⟩
  refine⟨StI.mk' hg hth.hl ?_ e hi e4,.inr (.inr ?_)⟩
  ·show Zt (H.arn t) H.sp (m:Int) 1<=1000000;rw[hV];simp only at hadr;omega
  ·rw[e,hs];exact⟨rfl,rfl,hmn,rfl⟩
 ·rw[zA h0]at wi;have hV:Zt (H.arn t) H.sp (m:Int) 1=0:=by
   unfold ZO at h0;unfold Zt;split
   ·rename_i hp;rw[hp,zB rfl]at h0;split at h0
    ·exact(h0 rfl).elim
    ·rename_i hn;cases hx:(getA (H.arn t) H.sp (m:Int).toNat (1:Int).toNat 41).1 with
     | none=>rfl
     | some y=>rw[hx]at hn;simp at hn
   ·rfl
  have hs:Wp H t (.large m)=({{H.setA (H.own t) (takeAS (H.arn t) H.sp (m:Int) 1).1 with sp:=(takeAS (H.arn t) H.sp (m:Int) 1).2}with ths:=H.ths.set t g},none,0,ZO (H.arn t) H.sp (m:Int) 1):=by
   have:H.ths.set t g=H.ths:=ZC hg;rw[this];simp only[Wp,h0,zq,Hw.setA]
  have e:=Zs (H1:={H.setA (H.own t) (takeAS (H.arn t) H.sp (m:Int) 1).1 with sp:=(takeAS (H.arn t) H.sp (m:Int) 1).2}) ht hs;have hi:=h.upd hg (g':={g with ph:=none}) (live':=H.live) wi e3 e4.l (by simp[Wd.put]) (λp hp _=>.inl hp) (λk' y=>by
   unfold cnT;rw[hph];simp only[cnP]) h.lk (λe' he=>.inl he) (λs a hp=>by cases hp) ⟨hth.ll,hth.lo,hth.hb,hth.hl,by
    unfold PhI;exact hh⟩
  refine⟨StI.mk' hg hth.hl ?_ e hi e4,.inr (.inl ?_)⟩
  ·show Zt (H.arn t) H.sp (m:Int) 1<=1000000;rw[hV];omega
  ·rw[e,hs];exact⟨rfl,h0,rfl,rfl⟩
theorem Wk3 {W:Wd}(h:WI W)(hk:W.ars[k]?=some A){j:Nat}{l:List Int}(hl:∀x∈l,∃p∈W.held,isAt k (j:Int) x p=true)(hn:l.Nodup)(hj:j<W.tb.length):Z6 A (j:Int) l=0/\WI (W.put k (Zb A (j:Int) l) W.sp (W.held.filter λp=>!isOf k (j:Int) l p)):=by
 have ga:=h.ga k A hk;have ho:ownW W.held k (j:Int) l=true:=QI.2 ⟨hl,hn⟩;obtain⟨c,ss,_,hc,_⟩:=ga.cl (k:=j) (by rw[h.tb k A hk];exact hj);have hE:Z6 A (j:Int) l=0:=by
  rw[UC ga hc];refine Wff ⟨λx hx=>?_,hn⟩;obtain⟨p,hp,hpx⟩:=hl x hx;obtain⟨a1,a2,a3,a4⟩:=QJ.1 hpx;obtain⟨_,_,_,htk,_⟩:=h.cls hp a2 (by rw[a1];exact hk);rw[a3]at htk;exact(Q0 hc).1 htk
 refine⟨hE,?_⟩;have:=h.toC hk ho;rw[zB hE,h.drp ho]at this;exact this
theorem Wb2 {xs:List Int}{tb:List Cls}{ars0:List AR}(hH:H.tb=tb)(h:WI ⟨tb,s0,H.ars,held⟩)(hk:k<tb.length)(hxs:∀x∈xs,Um held (k:Int) x)(hn:xs.Nodup)(ha:∀p∈held,Yd ars0 (p.addr:Int)=(p.k:Int)):∀j,j<=H.ars.length →
 ∃ars',Q3 H k (Zh ars0 xs) (List.range j) = {H with ars:=ars'}/\ars'.length=H.ars.length/\WI ⟨tb,s0,ars',held.filter λp=>!(decide (p.k<j)&&(p.cls==(k:Int)&&xs.contains (p.addr:Int)))⟩
 | 0,_=>by
  refine⟨H.ars,rfl,rfl,?_⟩;have:(held.filter λp=>!(decide (p.k<0)&&(p.cls==(k:Int)&&xs.contains (p.addr:Int))))=held:=zBE.2 λp _=>by simp
  rw[this];exact h
 | j+1,hj=>by
  obtain⟨ars',e,hl,wi⟩:=Wb2 hH h hk hxs hn ha j (by omega);rw[Q1,e];have hA:ars'[j]?=some (ars'[j]'(by omega)):=gGe _;simp only[hA];have Wdf:∀{p:Pc},p∈held->p.k=j->((p.addr:Int)∈Zh ars0 xs j↔(p.addr:Int)∈xs):=λ{p} hp hpk=>by
   unfold Zh;rw[zH,ha p hp,hpk];simp
  have filt:((held.filter λp=>!(decide (p.k<j)&&(p.cls==(k:Int)&&xs.contains (p.addr:Int)))).filter λp=>!isOf j (k:Int) (Zh ars0 xs j) p)=held.filter λp=>!(decide (p.k<j+1)&&(p.cls==(k:Int)&&xs.contains (p.addr:Int))):=by
   rw[zFT];apply zET;intro p hp;have e1:isOf j (k:Int) (Zh ars0 xs j) p=(p.k==j&&(p.cls==(k:Int)&&xs.contains (p.addr:Int))):=by
    unfold isOf;by_cases hpk:p.k=j
    ·have:=Wdf hp hpk;have e2:(Zh ars0 xs j).contains (p.addr:Int)=xs.contains (p.addr:Int):=by
      rw[zBF,zEV,zEV];exact this
     rw[e2]
    ·have:(p.k==j)=false:=by simpa using hpk
     rw[this];rfl
   rw[e1];have e3:decide (p.k<j+1)=(decide (p.k<j)||p.k==j):=by
    rw[zBF];simp;omega
   rw[e3];cases p.k==j<;>cases decide (p.k<j)<;>cases(p.cls==(k:Int)&&xs.contains (p.addr:Int))<;>rfl
  by_cases hp:Zh ars0 xs j=[]
  ·rw[zB hp];refine⟨ars',rfl,hl,?_⟩;rw[←filt,hp];have:∀p:Pc,(!isOf j (k:Int) [] p)=true:=λp=>by simp[isOf]
   rw[zBE.2 λp _=>this p];exact wi
  ·rw[zA hp];refine⟨ars'.set j (Zb (ars'[j]'(by omega)) (k:Int) (Zh ars0 xs j)),by simp[Hw.setA],by simp[hl],?_⟩;rw[←filt];refine(Wk3 wi hA (j:=k) (l:=Zh ars0 xs j) (λx hx=>?_) (hn.sublist zCS) hk).2;unfold Zh at hx;obtain⟨hx1,hx2⟩:=zH.1 hx;obtain⟨p,hp,h1,h2,h3⟩:=hxs x hx1;have hpk:p.k=j:=by
    have:=ha p hp;rw[h3]at this;rw[this]at hx2;have:(p.k:Int)=(j:Int):=by simpa using hx2
    omega
   exact⟨p,zH.2 ⟨hp,by simp[hpk]⟩,QJ.2 ⟨hpk,h2,h3,h1⟩⟩
theorem Whh {tb:List Cls}(hH:H.tb=tb)(h:WI ⟨tb,s0,H.ars,held⟩){own:Nat}(hown:own<H.ars.length)(hk:k<tb.length){xs:List Int}(hxs:∀x∈xs,Um held (k:Int) x)(hn:xs.Nodup) :
 ∃ars' held',Uz H own k xs = {H with ars:=ars'}/\ars'.length=H.ars.length/\WI ⟨tb,s0,ars',held'⟩/\(∀c x,Um held' c x↔Um held c x/\¬(c=(k:Int)/\x∈xs))/\∀p∈held',p.moved=false->p∈held:=by
 have hA:H.ars[own]?=some H.ars[own]:=gGe hown;have ha:∀p∈held,Yd H.ars (p.addr:Int)=(p.k:Int):=λp hp=>h.owner hp (zD _) (by have:=(h.size_pos hp).1;omega);have all:∃ars' held',Q3 H k (Zh H.ars xs) (List.range H.ars.length) = {H with ars:=ars'}/\ars'.length=H.ars.length/\WI ⟨tb,s0,ars',held'⟩/\(∀c x,Um held' c x↔Um held c x/\¬(c=(k:Int)/\x∈xs))/\∀p∈held',p.moved=false->p∈held:=by
  obtain⟨ars',e,hl,wi⟩:=Wb2 hH h hk hxs hn ha H.ars.length (zD _);refine⟨ars',_,e,hl,wi,λc x=>?_,λp hp _=>(zH.1 hp).1⟩;constructor
  ·rintro⟨p,hp,h1,h2,h3⟩;obtain⟨hp,hf⟩:=zH.1 hp;refine⟨⟨p,hp,h1,h2,h3⟩,?_⟩;rintro⟨rfl,hx⟩;obtain⟨B,hB,_⟩:=h.hf p hp;have hpl:p.k<H.ars.length:=(gSi.1 hB).1;rw[h2,h3]at hf;simp[hpl,hx]at hf
  ·rintro⟨⟨p,hp,h1,h2,h3⟩,hno⟩;refine⟨p,zH.2 ⟨hp,?_⟩,h1,h2,h3⟩;rw[h2,h3];by_cases hc:c=(k:Int)
   ·have:x∉xs:=λhx=>hno ⟨hc,hx⟩;simp[this]
   ·simp[hc]
 unfold Uz;rw[hA];simp only;by_cases hcond:(Zh H.ars xs own).length=xs.length/\Kb H.ars[own] (k:Int) xs=true
 ·rw[zB hcond];have hin:∀x∈xs,Yd H.ars x=(own:Int):=by
   have h1:Zh H.ars xs own=xs:=by
    unfold Zh at hcond ⊢;exact List.filter_sublist.eq_of_length hcond.1
   intro x hx;rw[←h1]at hx;unfold Zh at hx;simpa using(zH.1 hx).2
  have ho:ownW held own (k:Int) xs=true:=QI.2 ⟨λx hx=>by
   obtain⟨p,hp,h1,h2,h3⟩:=hxs x hx;have h4:=ha p hp;rw[h3,hin x hx]at h4;exact⟨p,hp,QJ.2 ⟨by omega,h2,h3,h1⟩⟩,hn⟩
  have wi:=h.toT hA ho;rw[zB hcond.2]at wi;exact⟨_,_,rfl,by simp[Hw.setA],wi,Wiv h ho,Wgo⟩
 ·rw[zA hcond];have e:(if(Zh H.ars xs own).length=xs.length then H.setA own (Qh H.ars[own] (k:Int) xs)else H)=H:=by
   split
   ·rename_i hl;have hv:Kb H.ars[own] (k:Int) xs=false:=by
     apply zAQ.2;intro hx;exact hcond ⟨hl,hx⟩
    have:Qh H.ars[own] (k:Int) xs=H.ars[own]:=by unfold Qh;rw[hv];rfl
    rw[this];exact Wbn hA
   ·rfl
  rw[e];exact all
def isF:Ph->Prop
 | .find _=>True
 | .put _ _=>True
 | .back=>True
 | .give _ _=>True
 | .drain=>True
 | _=>False
def Wcc (g:Th):Ph->Nat
 | .find _=>101
 | .put _ _=>100
 | .drain=>100
 | .back=>g.hands.length
 | _=>0
def EfF (H:Hw)(t:Nat)(g:Th)(p:Ph):Prop:=(Wp H t p).2.2.1=0 ∧
 ((∃p' g',(Wp H t p).2.1=some p'/\isF p'/\(∀x,p'≠.find x)/\(ZX H t p).ths[t]?=some g'/\Wcc g' p'<Wcc g p)\/(Wp H t p).2.1=none) ∧
 ((∀x,p≠.find x)->(Wp H t p).2.2.2=0/\(ZX H t p).live=H.live) ∧
 (∀x,p=.find x->(mget H.live x=none->(Wp H t p).2.1=none/\(Wp H t p).2.2.2≠0/\(ZX H t p).live=H.live)/\(∀b,mget H.live x=some b->(Wp H t p).2.2.2=0/\(ZX H t p).live=mdel H.live x))
theorem WcI (hg:H.ths[t]?=some g):retH H t=if g.hands=[]then none else some .back:=by unfold retH;rw[hg]
theorem Wji (h:HI H held s0)(hg:H.ths[t]?=some g){x:Int}(hph:g.ph=some (.find x)):StI H t (.find x)/\EfF H t g (.find x):=by
 have ht:=(gSi.1 hg).1;have hth:=h.th g (h.mem hg);obtain⟨hh,hx⟩:g.hands=[]/\I63 x:=by have:=hth.ph;unfold PhI at this;rw[hph]at this;exact this
 have hro:∀A∈H.ars,RunsOk A:=λA hA=>by
  obtain⟨j,hj⟩:=zL hA;exact(h.wi.ga j A hj).runsOk
 cases hm:mget H.live x with
 | none=>
  have hs:Wp H t (.find x)=({H with ths:=H.ths.set t g},none,0,whyH H x):=by
   have:H.ths.set t g=H.ths:=ZC hg;rw[this];simp only[Wp,VI,hm]
  have e:=Zs ht hs;have hi:=h.updT hg (g':={g with ph:=none}) (live':=H.live) (λk' x=>by
   unfold cnT;rw[hph];simp only[cnP]) h.lk (λe' he=>.inl he) (λs a hp=>by cases hp) ⟨hth.ll,hth.lo,hth.hb,hth.hl,by
    unfold PhI;exact hh⟩
  refine⟨StI.mk' hg hth.hl ⟨hx,λ_=>hro,λb hb=>by rw[hm]at hb;cases hb⟩ e hi (KS.refl _),?_⟩;unfold EfF;rw[e,hs];refine⟨rfl,.inr rfl,λhn=>(hn x rfl).elim,λy hy=>?_⟩;cases hy;refine⟨λ_=>⟨rfl,?_,rfl⟩,(λb hb=>by rw[hm]at hb;cases hb)⟩;show whyH H x≠0;unfold whyH
  repeat' split
  all_goals simp
 | some b=>
  have hme:=KF hm;obtain⟨_,p,hp,h1,h2,h3,h4,h5⟩:=h.lv _ hme;simp only at h2 h3 h4 h5;have hx0:0<=x:=by omega
  obtain⟨A,hA,hd⟩:=h.wi.hf p hp;have hP:Wd8 H t (.find x):=⟨hx,(λhn=>by rw[hm]at hn;cases hn),λ_ _=>hx0⟩;rcases hd with⟨c1,_,r,hr,c2,c3⟩|⟨j,c,c1,c2,c3,_⟩
  ·have hneg:b.2.2.1 = -1:=by rw[←h2,c1]
   have hs:Wp H t (.find x)=({{H with live:=mdel H.live x}with ths:=H.ths.set t g},some (.give (x/256) b.2.2.2),0,0):=by
    have:H.ths.set t g=H.ths:=ZC hg;rw[this];simp only[Wp,VI,hm];rw[zB (by omega)]
   have e:=Zs (H1:={H with live:=mdel H.live x}) ht hs;have hx256:x/256*256=x:=by omega
   have hi:=h.updT hg (g':={g with ph:=some (.give (x/256) b.2.2.2)}) (live':=mdel H.live x) (λk' y=>by
    have h6:=WaG h.lk hm k' y;rw[hneg]at h6;unfold cnT;rw[hph];simp only[cnP,hx256];by_cases hy:x=y
    ·subst hy;rw[zGN]at h6;by_cases hk : -1=k'
     ·rw[zB hk]at h6;rw[zB ⟨hk.symm,rfl⟩];omega
     ·rw[zA hk]at h6;rw[zA (λhx=>hk hx.1.symm)];omega
    ·have:[x].count y=0:=zFJ.2 (by simp;omega);rw[this]at h6;rw[zA (λhx=>hy hx.2.symm)];split at h6<;>omega)
    (Go.Vc.mdel_keys h.lk) (λe' he=>.inl (U0.1 he).1) (λs a hsa=>by
     cases hsa;exact⟨p,hp,h1,c1,by rw[hx256];exact h3,h5⟩) ⟨hth.ll,hth.lo,hth.hb,hth.hl,by
      unfold PhI;exact hh⟩
   refine⟨StI.mk' hg hth.hl hP e hi (KS.refl _),?_⟩;unfold EfF;rw[e,hs];refine⟨rfl,.inl ⟨_,_,rfl,trivial,(λy hy=>by cases hy),zK ht,by simp[Wcc]⟩,λhn=>(hn x rfl).elim,λy hy=>?_⟩;cases hy;exact⟨(λhn=>by rw[hm]at hn;cases hn),λ_ _=>⟨rfl,rfl⟩⟩
  ·have hbj:b.2.2.1=(j:Int):=by rw[←h2,c1]
   have hjl:j<H.tb.length:=by
    rw[h.wi.tb _ _ hA]at c2;exact(gSi.1 c2).1
   have hs:Wp H t (.find x)=({{H with live:=mdel H.live x}with ths:=H.ths.set t {g with hands:=[(j,[x])]}},some (.put j x),0,0):=by
    simp only[Wp,VI,hm];rw[zA (by omega),hbj,iTn];unfold Z1;rw[Ze (g:=g) (by exact hg),hh];rfl
   have e:=Zs (H1:={H with live:=mdel H.live x}) ht hs;have hi:=h.updT hg (g':={g with hands:=[(j,[x])],ph:=some (.put j x)}) (live':=mdel H.live x) (λk' y=>by
    have h6:=WaG h.lk hm k' y;rw[hbj]at h6;unfold cnT;rw[hph,hh];simp only[cnP,QC,Ku];omega)
    (Go.Vc.mdel_keys h.lk) (λe' he=>.inl (U0.1 he).1) (λs a hsa=>by cases hsa) ⟨hth.ll,hth.lo,λb' hb'=>by
     simp only[zR]at hb';subst hb';exact⟨hjl,by simp,by simp⟩,by simp,by
     unfold PhI;exact⟨rfl,hjl⟩⟩
   refine⟨StI.mk' hg hth.hl hP e hi (KS.refl _),?_⟩;unfold EfF;rw[e,hs];refine⟨rfl,.inl ⟨_,_,rfl,trivial,(λy hy=>by cases hy),zK ht,by simp[Wcc]⟩,λhn=>(hn x rfl).elim,λy hy=>?_⟩;cases hy;exact⟨(λhn=>by rw[hm]at hn;cases hn),λ_ _=>⟨rfl,rfl⟩⟩
theorem Wdr {f:Cls->Li->List Int×Li}{tb:List Cls}{ls:List Li}{b:Bt}(h:b∈Qj f tb ls):b.1<tb.length/\b.2≠[]/\∃c∈tb,∃l∈ls,b.2=(f c l).1:=by
 unfold Qj at h;obtain⟨k,hk,he⟩:=zEC.1 h;split at he
 ·rename_i c l hc hl;split at he
  ·cases he
  ·cases he;exact⟨zW.1 hk,by assumption,c,zE hc,l,zE hl,rfl⟩
 ·cases he
theorem Wdl {f:Cls->Li->List Int×Li}{tb:List Cls}{ls:List Li}{l':Li}(h:l'∈Qi f tb ls):∃c∈tb,∃l∈ls,l'=(f c l).2:=by
 unfold Qi at h;obtain⟨i,hi⟩:=zL h;rw[zGI]at hi;split at hi
 ·rename_i c l hc hl;cases hi;exact⟨c,zE hc,l,zE hl,rfl⟩
 ·cases hi
theorem Wdp {f:Cls->Li->List Int×Li}{tb:List Cls}{ls:List Li}(h:ls.length=tb.length):(Qi f tb ls).length=tb.length:=by
 unfold Qi;rw[List.length_zipWith];omega
theorem WcY (c:Cls)(l:Li):(QM c l).2.os.length<=l.os.length/\(QM c l).1.length<=l.os.length:=by
 simp only[QM,oldL,zz,zY];omega
theorem Wb4 (c:Cls)(l:Li):(Zj c l).2.os.length<=l.os.length/\(Zj c l).1.length<=l.os.length:=by
 simp only[Zj,oldL,zz,zY];omega
theorem WhL (h:HI H held s0)(hg:H.ths[t]?=some g)(hph:g.ph=some .drain):StI H t .drain/\EfF H t g .drain:=by
 have ht:=(gSi.1 hg).1;have hth:=h.th g (h.mem hg);have hh:g.hands=[]:=by have:=hth.ph;unfold PhI at this;rw[hph]at this;exact this
 have h40:=h.tb40;have hol:=Hm Zj H.tb g.ls;have hs:Wp H t .drain=({H with ths:=H.ths.set t {g with ls:=Qi Zj H.tb g.ls,hands:=Qj Zj H.tb g.ls}},(if Qj Zj H.tb g.ls=[]then none else some .back),0,0):=by
  simp only[Wp,Ze hg];rw[WcI (g:={g with ls:=Qi Zj H.tb g.ls,hands:=Qj Zj H.tb g.ls}) (by simp[ht])]
 have e:=Zs ht hs;have hi:=h.updT hg (g':={ls:=Qi Zj H.tb g.ls,hands:=Qj Zj H.tb g.ls,ph:=if Qj Zj H.tb g.ls=[]then none else some .back}) (live':=H.live) (λk' x=>by
  have h1:=cnF (f:=Zj) Wgf hth.ll k' x;unfold cnT;rw[hph,hh];have:cnP (if Qj Zj H.tb g.ls=[]then none else some Ph.back) k' x=0:=by split<;>rfl
  simp only[this,Ku];simp only[cnP];omega) h.lk (λe' he=>.inl he) (λs a hp=>by
   simp only at hp;split at hp<;>cases hp) ⟨Wdp hth.ll,λl hl=>by
   obtain⟨c,_,l0,hl0,rfl⟩:=Wdl hl;have:=hth.lo l0 hl0;have:=Wb4 c l0;exact⟨Wfx (hth.lo l0 hl0).1,by omega⟩,λb hb=>by
   obtain⟨b1,b2,c,_,l0,hl0,b3⟩:=Wdr hb;have:=hth.lo l0 hl0;have:=Wb4 c l0;exact⟨b1,b2,by rw[b3];omega⟩,by simp only;omega,by
   unfold PhI;by_cases ho:Qj Zj H.tb g.ls=[]
   ·rw[zB ho];exact ho
   ·rw[zA ho];exact ho⟩
 refine⟨StI.mk' hg hth.hl trivial e hi (KS.refl _),?_⟩;unfold EfF;rw[e,hs];refine⟨rfl,?_,λ_=>⟨rfl,rfl⟩,λx hx=>by cases hx⟩;by_cases ho:Qj Zj H.tb g.ls=[]
 ·exact .inr (by simp only;rw[zB ho])
 ·exact .inl ⟨.back,_,by simp only;rw[zA ho],trivial,(λy hy=>by cases hy),zK ht,by simp only[Wcc];omega⟩
theorem Wkj (h:HI H held s0)(hg:H.ths[t]?=some g){s a:Int}(hph:g.ph=some (.give s a)):StI H t (.give s a)/\EfF H t g (.give s a):=by
 have ht:=(gSi.1 hg).1;have hth:=h.th g (h.mem hg);have hh:g.hands=[]:=by have:=hth.ph;unfold PhI at this;rw[hph]at this;exact this
 obtain⟨p,hp,h1,h2,h3,h4⟩:=h.gv g (h.mem hg) s a hph;obtain⟨A,hA,_⟩:=h.wi.hf p hp;have hA':H.ars[p.k]?=some A:=hA;have hal:=(gSi.1 hA').1;obtain⟨_,r,hr,c2,c3⟩:=h.wi.run hp h2 hA;have ga:=h.wi.ga _ _ hA;have hs256:s=(r.1:Int):=by omega
 have hE:QS A s=0:=by
  unfold QS;rw[zB];unfold Gy;rw[zGE];exact⟨r,hr,by simp[hs256]⟩
 have ho:ownW held p.k (-1) [s*256]=true:=by rw[hs256];exact h.wi.giveOwn hA hr
 have wi:=h.wi.giveP hA s;rw[zB hE,h.wi.drp ho]at wi;have hant:a.toNat=p.k:=by omega
 have hs:Wp H t (.give s a)=({H.setA p.k (ZT A s)with ths:=H.ths.set t g},none,0,0):=by
  have:H.ths.set t g=H.ths:=ZC hg;rw[this];simp only[Wp,hant,hA',Hw.setA]
 have e:=Zs (H1:=H.setA p.k (ZT A s)) ht hs;have hi:=h.upd hg (g':={g with ph:=none}) (live':=H.live) wi h.sim rfl (by simp[Wd.put]) (λq hq _=>.inl (zH.1 hq).1) (λk' x=>by
  have h6:=Wfu (held':=held.filter λp'=>!isOf p.k (-1) [s*256] p') (l:=[s*256]) (cl:=-1) (by simp) (Wk1 ho) (Wjx h.wi ho) k' x;have h6:cnW held k' x=cnW (held.filter λp'=>!isOf p.k (-1) [s*256] p') k' x+(if -1=k' then[s*256].count x else 0):=h6
  unfold cnT;rw[hph];simp only[cnP];by_cases hy:s*256=x
  ·subst hy;rw[zGN]at h6;by_cases hk : -1=k'
   ·rw[zB hk]at h6;rw[zB ⟨hk.symm,rfl⟩];omega
   ·rw[zA hk]at h6;rw[zA (λhx=>hk hx.1.symm)];omega
  ·have:[s*256].count x=0:=zFJ.2 (by simp;omega);rw[this]at h6;rw[zA (λhx=>hy hx.2.symm)];split at h6<;>omega) h.lk (λe' he=>.inl he) (λs a hp=>by cases hp) ⟨hth.ll,hth.lo,hth.hb,hth.hl,by
   unfold PhI;exact hh⟩
 refine⟨StI.mk' hg hth.hl ⟨by omega,by omega,λB hB q hq=>?_⟩ e hi (KS.refl _),?_⟩
 ·obtain⟨j,hj⟩:=zL hB;have gb:=h.wi.ga j B hj;have:=gb.fit hq;have:=gb.pg.n2;omega
 ·unfold EfF;rw[e,hs];exact⟨rfl,.inr rfl,λ_=>⟨rfl,rfl⟩,λx hx=>by cases hx⟩
theorem Wko (h:HI H held s0)(hg:H.ths[t]?=some g)(hph:g.ph=some .back):StI H t .back/\EfF H t g .back:=by
 have ht:=(gSi.1 hg).1;have hth:=h.th g (h.mem hg);have hh:g.hands≠[]:=by have:=hth.ph;unfold PhI at this;rw[hph]at this;exact this
 have htg:=UK hg;cases hhd:g.hands with
 | nil=>exact(hh hhd).elim
 | cons b r=>
  obtain⟨k,xs⟩:=b;obtain⟨hk,hxne,hxl⟩:=hth.hb (k,xs) (by rw[hhd];simp);simp only at hk hxne hxl;have hcnt:∀x,xs.count x<=cnT g (k:Int) x:=λx=>by
   unfold cnT;rw[hhd,QC,zB rfl];simp only;omega
  have hum:∀x∈xs,Um held (k:Int) x:=λx hx=>h.um_t (h.mem hg) (ze (zGM.2 hx) (hcnt x));have hnd:xs.Nodup:=zGL.2 λx=>by
   have h1:=hcnt x;have h2:=h.cnT_le (h.mem hg) (k:Int) x;have h3:=WiG held (k:Int) x;omega
  obtain⟨ars',held',eb,hal,wi,um,sub⟩:=Whh (H:={H with ths:=H.ths.set t {g with hands:=r}}) (tb:=H.tb) rfl h.wi (h.own_lt t) hk hum hnd;have hs:Wp H t .back=({{H with ars:=ars'}with ths:=H.ths.set t {g with hands:=r}},(if r=[]then none else some .back),0,0):=by
   simp only[Wp,htg,hhd,Ze hg,eb];rw[WcI (g:={g with hands:=r}) (by simp[ht])]
  have e:=Zs (H1:={H with ars:=ars'}) ht hs;have hi:=h.upd hg (g':={g with hands:=r,ph:=if r=[]then none else some .back}) (live':=H.live) wi h.sim rfl hal (λp hp hm=>.inl (sub p hp hm)) (λk' x=>by
   have h1:=Wfu hnd hum um k' x;unfold cnT;rw[hph,hhd,QC];have:cnP (if r=[]then none else some Ph.back) k' x=0:=by split<;>rfl
   simp only[this];simp only[cnP];omega) h.lk (λe' he=>.inl he) (λs a hp=>by
    simp only at hp;split at hp<;>cases hp) ⟨hth.ll,hth.lo,λb hb=>hth.hb b (by rw[hhd];exact zBK _ hb),by have:=hth.hl;rw[hhd]at this;simp at this ⊢;omega,by
    unfold PhI;by_cases ho:r=[]
    ·rw[zB ho];exact ho
    ·rw[zA ho];exact ho⟩
  refine⟨StI.mk' hg hth.hl ⟨k,xs,r,by rw[htg];exact hhd,λx hx=>⟨(h.i63 (hum x hx)).1,(h.i63 (hum x hx)).2.2⟩,by omega⟩ e hi (KS.refl _),?_⟩;unfold EfF;rw[e,hs];refine⟨rfl,?_,λ_=>⟨rfl,rfl⟩,λx hx=>by cases hx⟩;by_cases ho:r=[]
  ·exact .inr (by simp only;rw[zB ho])
  ·exact .inl ⟨.back,_,by simp only;rw[zA ho],trivial,(λy hy=>by cases hy),zK ht,by simp only[Wcc];rw[hhd];simp⟩
theorem Wlg (h:HI H held s0)(hg:H.ths[t]?=some g){x:Int}(hph:g.ph=some (.put k x)):StI H t (.put k x)/\EfF H t g (.put k x):=by
 have ht:=(gSi.1 hg).1;have hth:=h.th g (h.mem hg);obtain⟨hh,hk⟩:g.hands=[(k,[x])]/\k<H.tb.length:=by have:=hth.ph;unfold PhI at this;rw[hph]at this;exact this
 obtain⟨c,hc,hok⟩:=h.cls hk;obtain⟨l,hl,hli,hlo,hlm⟩:=hth.li hk;have htg:=UK hg;have h40:=h.tb40;have hpo:=Wi2 (x:=x) hok hlo;have hpc:=WjN c x l (by omega);have hol:(putL c x l).1.length<=129/\(putL c x l).2.os.length<=128:=by
  have hlim:=hlo.lim;have hadd:(addL [x] l).os=l.os++[x]:=by unfold addL;rw[zA (by simp;omega)]
  have hup:(upL c (addL [x] l)).os=l.os++[x]:=by rw[←hadd];unfold upL;split<;>rfl
  unfold Cls.ok at hok;unfold putL;rw[zA (by omega)];split
  ·rw[hadd];simp;omega
  ·simp only[oldL,hup,zY,zz,zJ,zFH];omega
 obtain⟨ll,lo⟩:=hth.setL (k:=k) hpo hol.2;have hhe:∃hs:List Bt,(if(putL c x l).1=[]then[]else[(k,(putL c x l).1)])=hs:=⟨_,rfl⟩
 obtain⟨hs2,hhs2⟩:=hhe;have hs2l:hs2.length<=1:=by rw[←hhs2];split<;>simp
 have hs2b:∀b∈hs2,b.1<H.tb.length/\b.2≠[]/\b.2.length<=256:=λb hb=>by
  rw[←hhs2]at hb;split at hb
  ·simp at hb
  ·simp only[zR]at hb;subst hb;exact⟨hk,by assumption,by simp only;omega⟩
 have hs2c:∀k' y,cnB hs2 k' y=if(k:Int)=k' then(putL c x l).1.count y else 0:=λk' y=>by
  rw[←hhs2];split
  ·rename_i hn;rw[hn,Ku];simp
  ·simp only[QC,Ku,zt]
 let g3:Th:={g with ls:=g.ls.set k (putL c x l).2,hands:=hs2}
 let g4:Th:=if H.cf.budget<ZI H.tb g3.ls then{g3 with ls:=Qi QM H.tb g3.ls,hands:=g3.hands++Qj QM H.tb g3.ls}else g3
 have hpe:putH H t k x = {H with ths:=H.ths.set t g4}:=by
  have e2:(if(putL c x l).1=[]then H.setT t λh=>h.setL k (putL c x l).2 else Z1 (H.setT t λh=>h.setL k (putL c x l).2) t k (putL c x l).1) = {H with ths:=H.ths.set t {g with ls:=g.ls.set k (putL c x l).2,hands:=(k,[x])::hs2}}:=by
   rw[←hhs2];split
   ·rw[Ze hg,←hh];rfl
   ·rw[Ze hg];unfold Z1;rw[Ze (g:=g.setL k (putL c x l).2) (by simp[ht])];simp only[zBC,Th.setL,hh];rfl
  have e3:({H with ths:=H.ths.set t {g with ls:=g.ls.set k (putL c x l).2,hands:=(k,[x])::hs2}}:Hw).setT t (λh=>{h with hands:=h.hands.drop 1}) = {H with ths:=H.ths.set t g3}:=by
   rw[Ze (g:={g with ls:=g.ls.set k (putL c x l).2,hands:=(k,[x])::hs2}) (by simp[ht])];simp only[zBC,zFD,List.drop_zero];rfl
  have hg3e:({H with ths:=H.ths.set t g3}:Hw).ths[t]?=some g3:=by simp[ht]
  unfold putH;simp only[KT hc,htg,hli,e2,e3,UK hg3e,Ze hg3e,zBC];show(if H.cf.budget<ZI H.tb g3.ls then _ else _)=_
  simp only[g4];split<;>rfl
 have hg4:g4.ph=g.ph:=by simp only[g4];split<;>rfl
 have g4c:∀k' y,cnL g4.ls k' y+cnB g4.hands k' y=cnL g.ls k' y+cnB g.hands k' y:=λk' y=>by
  have h1:=Ha hl (putL c x l).2 k' y;have h2:=hpc y;have h3:cnL g3.ls k' y+cnB g3.hands k' y=cnL g.ls k' y+cnB g.hands k' y:=by
   simp only[g3];rw[hs2c,hh,QC,Ku];by_cases hkk:(k:Int)=k'
   ·simp only[hkk,zP]at h1 ⊢;omega
   ·simp only[hkk,zq]at h1 ⊢;omega
  simp only[g4];split
  ·have h4:=cnF (f:=QM) Wg5 (tb:=H.tb) (ls:=g3.ls) ll k' y;simp only[GX];omega
  ·exact h3
 have g4l:g4.ls.length=H.tb.length/\(∀l∈g4.ls,LiOk l/\l.os.length<=128)/\(∀b∈g4.hands,b.1<H.tb.length/\b.2≠[]/\b.2.length<=256)/\g4.hands.length<=41:=by
  have hsl:=Hm QM H.tb g3.ls;simp only[g4];split
  ·refine⟨Wdp ll,λl hl=>?_,λb hb=>?_,by simp only[zJ,g3]at *;omega⟩
   ·obtain⟨c',hc',l0,hl0,rfl⟩:=Wdl hl;have h5:=lo l0 hl0;have:=WcY c' l0;exact⟨WdQ (h.ok c' hc') h5.1,by omega⟩
   ·rcases zM.1 hb with hb|hb
    ·exact hs2b b hb
    ·obtain⟨b1,b2,c',_,l0,hl0,b3⟩:=Wdr hb;have h5:=lo l0 hl0;have:=WcY c' l0;exact⟨b1,b2,by rw[b3];omega⟩
  ·exact⟨ll,lo,hs2b,by simp only[g3];omega⟩
 have hs:Wp H t (.put k x)=({H with ths:=H.ths.set t g4},(if g4.hands=[]then none else some .back),0,0):=by
  show(putH H t k x,retH (putH H t k x) t,0,0)=_;rw[hpe,WcI (g:=g4) (by simp[ht])]
 have e:=Zs ht hs;have hi:=h.updT hg (g':={g4 with ph:=if g4.hands=[]then none else some .back}) (live':=H.live) (λk' y=>by
  have h1:=g4c k' y;unfold cnT;rw[hph];have:cnP (if g4.hands=[]then none else some Ph.back) k' y=0:=by split<;>rfl
  simp only[this];simp only[cnP];omega) h.lk (λe' he=>.inl he) (λs a hp=>by
   simp only at hp;split at hp<;>cases hp) ⟨g4l.1,g4l.2.1,g4l.2.2.1,g4l.2.2.2,by
   unfold PhI;by_cases ho:g4.hands=[]
   ·simp only[ho,zP]
   ·simp only[ho,zq];exact ho⟩
 refine⟨StI.mk' hg hth.hl ⟨hk,by rw[htg,hh];simp⟩ e hi (KS.refl _),?_⟩;unfold EfF;rw[e,hs];refine⟨rfl,?_,λ_=>⟨rfl,rfl⟩,λx hx=>by cases hx⟩;by_cases ho:g4.hands=[]
 ·exact .inr (by simp only;rw[zB ho])
 ·exact .inl ⟨.back,_,by simp only;rw[zA ho],trivial,(λy hy=>by cases hy),zK ht,by simp only[Wcc];have:=g4l.2.2.2;omega⟩
end Go.Ar
namespace Go.Ar
open Go Go.Vc Go.Proofs
open Go.Bu (isPow H7 Wcx)
variable {σ u w w':Hp}{F B P Q:Rg}{L:LayH}{H H':Hw}{t n:Nat}{g:Th}
def Wb7 (size:Int):Int:=(size+255)/256*256
def WhI (tb:List Cls)(size align:Int):Int×Int:=
 if size<=16384/\Z7 size align=true then(match clsV tb size align with
  | some k=>((tb.getD k ⟨8,1,1⟩).size:Int)
  | none=>Wb7 size,0)else(0,1)
theorem WhP {a:Int}(h1:1<=a)(h2:a<=256):(bits .and .i64 a (a-1) != 0) = !isPow a:=by
 obtain⟨a,rfl⟩:=zi (show 0<=a by omega);rw[show(a:Int)-1=((a-1:Nat):Int) by omega,Go.Bu.bits_and_i64 (by omega) (by omega),H7,←Wcx (by omega) (by omega)];simp only[bne,Bool.not_inj_iff];rw[zBF];simp only[zS];omega
end Go.Ar
namespace Go.Ar
open Go Go.Vc Go.Proofs
variable {σ u w w':Hp}{F B P Q:Rg}{L:LayH}{H H':Hw}{t n:Nat}{g:Th}
theorem Wdv {tb:List Cls}{size align:Int}{k:Nat}(h:clsV tb size align=some k):k<tb.length:=(zGJ.1 h).1
end Go.Ar
namespace Go.Ar
open Go.Vc (mget mset mdel)
variable {H H':Hw}{held:List Pc}{s0:Sp}{t k j:Nat}{g:Th}{A:AR}{c:Cls}
theorem QK (f:Th->Th)(hj:j≠t):(H.setT t f).ths[j]?=H.ths[j]? := by
 simp[Hw.setT,zCQ,Ne.symm hj]
theorem WhQ (x:Int)(hj:j≠t):(putH H t k x).ths[j]?=H.ths[j]? := by
 unfold putH Z1;simp only;split<;>split<;>simp only[QK _ hj]
theorem We2 (p:Ph)(hj:j≠t):(Wp H t p).1.ths[j]?=H.ths[j]? := by
 cases p with
 | take k=>simp only[Wp];split<;>simp only[Kq,QK _ hj]
 | transfer k w=>
  simp only[Wp];split
  ·split
   ·unfold Z1;rw[QK _ hj];rfl
   ·rfl
  ·rfl
 | central k w=>
  simp only[Wp];split
  ·rfl
  ·unfold Z1;rw[QK _ hj];rfl
 | grow k w=>simp only[Wp];split<;>rfl
 | fill=>simp only[Wp];split<;>simp only[Kq,QK _ hj]
 | large m=>simp only[Wp];split<;>rfl
 | find x=>
  simp only[Wp,VI];split
  ·rfl
  ·split
   ·rfl
   ·unfold Z1;rw[QK _ hj]
 | put k x=>exact WhQ x hj
 | back=>
  simp only[Wp];split
  ·rw[Gf,QK _ hj]
  ·rfl
 | give s a=>simp only[Wp];split<;>rfl
 | drain=>simp only[Wp,QK _ hj]
theorem Ho (p:Ph)(hj:j≠t):(ZX H t p).ths[j]?=H.ths[j]? := by
 unfold ZX setPh;rw[QK _ hj,We2 p hj]
def phAt (H:Hw)(j:Nat):Option Ph:=(H.ths[j]?).bind (·.ph)
def Wfq (H H':Hw)(t:Nat):Prop:=phAt H' t=none/\∀j,j≠t->phAt H' j=phAt H j
theorem WjQ (h:HI H held s0)(hg:H.ths[t]?=some g){p:Ph}(hp:g.ph=some p)(hf:¬isF p):∃cl sz,Rq H.tb g p cl sz:=by
 have hth:=(h.th g (h.mem hg)).ph;unfold PhI at hth;rw[hp]at hth;cases p with
 | take k=>obtain⟨c,hc,_⟩:=h.cls hth.2;exact⟨_,_,rfl,c,hc,rfl⟩
 | transfer k w=>obtain⟨c,hc,_⟩:=h.cls hth.2.1;exact⟨_,_,rfl,c,hc,rfl⟩
 | central k w=>obtain⟨c,hc,_⟩:=h.cls hth.2.1;exact⟨_,_,rfl,c,hc,rfl⟩
 | grow k w=>obtain⟨c,hc,_⟩:=h.cls hth.2.1;exact⟨_,_,rfl,c,hc,rfl⟩
 | fill=>
  obtain⟨k,x,xs,hh,hk,_⟩:=hth;obtain⟨c,hc,_⟩:=h.cls hk;exact⟨_,_,k,_,[],c,hh,rfl,hc,rfl⟩
 | large m=>exact⟨_,_,rfl,rfl⟩
 | find x=>exact(hf trivial).elim
 | put k x=>exact(hf trivial).elim
 | back=>exact(hf trivial).elim
 | give s a=>exact(hf trivial).elim
 | drain=>exact(hf trivial).elim
theorem st_M (h:HI H held s0)(hg:H.ths[t]?=some g){p:Ph}(hp:g.ph=some p){cl sz:Int}(hr:Rq H.tb g p cl sz):StI H t p/\EfM H t p cl sz:=by
 cases p with
 | take k=>exact WjS h hg hp hr
 | transfer k w=>exact Wcm h hg hp hr
 | central k w=>exact Wem h hg hp hr
 | grow k w=>exact WjO h hg hp hr
 | fill=>exact Wjq h hg hp hr
 | large m=>exact Whv h hg hp hr
 | find x=>exact hr.elim
 | put k x=>exact hr.elim
 | back=>exact hr.elim
 | give s a=>exact hr.elim
 | drain=>exact hr.elim
theorem st_F (h:HI H held s0)(hg:H.ths[t]?=some g){p:Ph}(hp:g.ph=some p)(hf:isF p):StI H t p/\EfF H t g p:=by
 cases p with
 | take k=>exact hf.elim
 | transfer k w=>exact hf.elim
 | central k w=>exact hf.elim
 | grow k w=>exact hf.elim
 | fill=>exact hf.elim
 | large m=>exact hf.elim
 | find x=>exact Wji h hg hp
 | put k x=>exact Wlg h hg hp
 | back=>exact Wko h hg hp
 | give s a=>exact Wkj h hg hp
 | drain=>exact WhL h hg hp
open Classical in
theorem HI.stp (h:HI H held s0)(hg:H.ths[t]?=some g){p:Ph}(hp:g.ph=some p):StI H t p:=by
 by_cases hf:isF p
 ·exact(st_F h hg hp hf).1
 ·obtain⟨cl,sz,hr⟩:=WjQ h hg hp hf;exact(st_M h hg hp hr).1
theorem WaI {p:Ph}(ht:t<H.ths.length):∃g',(ZX H t p).ths[t]?=some g'/\g'.ph=(Wp H t p).2.1:=Wds ht
theorem WkH {cl sz:Int}:∀(n:Nat) {H:Hw} {held:List Pc} {s0:Sp} {g:Th} {p:Ph},HI H held s0->H.ths[t]?=some g->g.ph=some p->Rq H.tb g p cl sz->Ht H t p<=n →
 ∃m H' a e,RunN m H t p H' a e/\(∃held s0,HI H' held s0)/\KS H.sp H'.sp/\Wfq H H' t/\((e≠0/\a=0/\H'.live=H.live)\/(e=0/\mget H.live a=none/\H'.live=mset H.live a (a,sz,cl,Yd H'.ars a)))
 | n,H,held,s0,g,p,h,hg,hp,hr,hn=>by
  have ht:=(gSi.1 hg).1;obtain⟨s,ef⟩:=st_M h hg hp hr;have hps:(Wp H t p).2.1=none->Wfq H (ZX H t p) t:=λhx=>by
   obtain⟨g',hg',hp'⟩:=WaI (p:=p) ht;exact⟨by unfold phAt;rw[hg'];exact hp'.trans hx,λj hj=>by unfold phAt;rw[Ho p hj]⟩
  rcases ef with⟨p',g',e1,e2,e3,e4,e5⟩|⟨e1,e2,e3,e4⟩|⟨e1,e2,e3,e4⟩
  ·obtain⟨held',s0',h'⟩:=s.hi;obtain⟨g2,hg2,hp2⟩:=WaI (p:=p) ht;rw[e3]at hg2;cases hg2;have htb:(ZX H t p).tb=H.tb:=(Vz H t p).1;have hn':Ht (ZX H t p) t p'<n:=by omega
   obtain⟨m,H',a,e,r,hi,ks,ps,res⟩:=WkH (Ht (ZX H t p) t p') h' e3 (hp2.trans e1) (by rw[htb];exact e4) (zD _);refine⟨m+1,H',a,e,.next s.ok e1 r,hi,s.ks.trans ks,⟨ps.1,λj hj=>(ps.2 j hj).trans (by unfold phAt;rw[Ho p hj])⟩,?_⟩;rw[e2]at res;exact res
  ·exact⟨1,_,_,_,.done s.ok e1,s.hi,s.ks,hps e1,.inl ⟨e2,e3,e4⟩⟩
  ·exact⟨1,_,_,_,.done s.ok e1,s.hi,s.ks,hps e1,.inr ⟨e2,e3,e4⟩⟩
termination_by n=>n
structure OpOk (H H':Hw):Prop where
 hi:∃held s0,HI H' held s0
 ks:KS H.sp H'.sp
 kp:ZW H' H
 ph:∀j,phAt H' j=phAt H j
theorem OpOk.refl (h:HI H held s0):OpOk H H:=⟨⟨held,s0,h⟩,KS.refl _,ZW.refl _,λ_=>rfl⟩
theorem OpOk.trans {H1 H2 H3:Hw}(a:OpOk H1 H2)(b:OpOk H2 H3):OpOk H1 H3:=⟨b.hi,a.ks.trans b.ks,a.kp.trans b.kp,λj=>(b.ph j).trans (a.ph j)⟩
theorem WhB {tb:List Cls}{kind size align addr:Int}{p:Ph}(h:reqH tb kind size align addr=some p)(hx:I63 addr)(hh:g.hands=[]):PhI tb.length {g with ph:=some p}:=by
 unfold reqH at h;split at h
 ·split at h
  ·split at h
   ·split at h
    ·rename_i k hk;cases h;exact⟨hh,Wdv hk⟩
    ·cases h;exact⟨hh,by omega,by omega⟩
   ·cases h
  ·cases h
 ·split at h
  ·cases h;exact⟨hh,hx⟩
  ·split at h
   ·cases h;exact hh
   ·cases h
theorem HI.setPh (h:HI H held s0)(hg:H.ths[t]?=some g)(hn:g.ph=none){p:Ph}(hp:PhI H.tb.length {g with ph:=some p})(hq:∀s a,p≠.give s a):HI (setPh H t (some p)) held s0:=by
 have hth:=h.th g (h.mem hg);have e:Go.Ar.setPh H t (some p) = {H with ths:=H.ths.set t {g with ph:=some p}}:=Ze hg _;rw[e];refine h.updT hg (live':=H.live) (λk' x=>?_) h.lk (λe' he=>.inl he) (λs a hp=>by cases hp;exact(hq s a rfl).elim) ⟨hth.ll,hth.lo,hth.hb,hth.hl,hp⟩;unfold cnT;rw[hn];have:cnP (some p) k' x=0:=by
  cases p<;>first|rfl|exact(hq _ _ rfl).elim
 simp only[this];simp only[cnP]
theorem Wew (h:HI H held s0)(hg:H.ths[t]?=some g)(hn:g.ph=none):g.hands=[]:=by
 have:=(h.th g (h.mem hg)).ph;unfold PhI at this;rw[hn]at this;exact this
theorem Wa8 (H:Hw)(thread kind size align addr:Int):(∃e,QL H thread kind size align addr=.inl e/\e≠0)\/∃(t:Nat) (p:Ph) (g:Th),thread=(t:Int)/\H.ths[t]?=some g/\g.ph=none/\reqH H.tb kind size align addr=some p/\QL H thread kind size align addr=.inr (t,p):=by
 unfold QL;split
 ·split
  ·split
   ·split
    ·rename_i hth _ g hg hn _ p hp;exact .inr ⟨thread.toNat,p,g,by omega,hg,hn,hp,rfl⟩
    ·exact .inl ⟨1,rfl,by decide⟩
   ·exact .inl ⟨5,rfl,by decide⟩
  ·exact .inl ⟨1,rfl,by decide⟩
 ·exact .inl ⟨1,rfl,by decide⟩
theorem Wel (hg:H.ths[t]?=some g)(p:Option Ph)(hj:j≠t):phAt (setPh H t p) j=phAt H j:=by
 unfold phAt setPh;rw[QK _ hj]
theorem Wlz (hg:H.ths[t]?=some g)(hn:g.ph=none){p:Ph}(ps:Wfq (setPh H t (some p)) H' t):∀j,phAt H' j=phAt H j:=λj=>by
 by_cases hj:j=t
 ·subst hj;rw[ps.1];unfold phAt;rw[hg];exact hn.symm
 ·rw[ps.2 j hj,Wel hg _ hj]
def MalE (H:Hw)(size align:Int)(H':Hw)(a e:Int):Prop:=(e≠0/\a=0/\H'.live=H.live) ∨
 (e=0/\mget H.live a=none/\(1<=size/\size<=16384/\Z7 size align=true)/\∃cl,H'.live=mset H.live a (a,(WhI H.tb size align).1,cl,Yd H'.ars a)/\((∃k:Nat,cl=k/\clsV H.tb size align=some k)\/cl = -1/\clsV H.tb size align=none))
theorem We1 (h:HI H held s0)(thread size align:Int):∃H' a e,Gn H thread 0 size align 0 H' a e/\OpOk H H'/\MalE H size align H' a e:=by
 rcases Wa8 H thread 0 size align 0 with⟨e,hs,hne⟩|⟨t,p,g,rfl,hg,hn,hq,hs⟩
 ·exact⟨H,0,e,.inl ⟨hs,hne,rfl,rfl⟩,OpOk.refl h,.inl ⟨hne,rfl,rfl⟩⟩
 ·have hh:=Wew h hg hn;have hpi:=WhB (g:=g) hq (by unfold I63;decide) hh;unfold reqH at hq;rw[zB rfl]at hq;split at hq
  ·rename_i hsz;split at hq
   ·rename_i hok;have hgood:WhI H.tb size align=(match clsV H.tb size align with
     | some k=>((H.tb.getD k ⟨8,1,1⟩).size:Int)
     | none=>Wb7 size,0):=by
     unfold WhI;rw[zB ⟨hsz.2,hok⟩]
     first|done | (cases clsV H.tb size align<;>rfl)
    obtain⟨cl,hpe,hcl⟩:∃cl,Rq H.tb {g with ph:=some p} p cl (WhI H.tb size align).1/\((∃k:Nat,cl=k/\clsV H.tb size align=some k)\/cl = -1/\clsV H.tb size align=none):=by
     cases hcv:clsV H.tb size align with
     | some k=>
      rw[hcv]at hq hgood;cases hq;have hkl:=Wdv hcv;have hc:H.tb[k]?=some H.tb[k]:=gGe hkl;refine⟨k,⟨rfl,H.tb[k],hc,?_⟩,.inl ⟨k,rfl,rfl⟩⟩;rw[hgood];simp only;rw[zO,hc];rfl
     | none=>
      rw[hcv]at hq hgood;cases hq;refine⟨-1,⟨rfl,?_⟩,.inr ⟨rfl,rfl⟩⟩;rw[hgood];simp only;unfold Wb7;omega
    have hnp:∀s a,p≠.give s a:=λs a e=>by subst e;exact hpe.elim
    have h1:=h.setPh hg hn hpi hnp;have hg1:(Go.Ar.setPh H t (some p)).ths[t]?=some {g with ph:=some p}:=by
     have ht:=(gSi.1 hg).1;have e:Go.Ar.setPh H t (some p) = {H with ths:=H.ths.set t {g with ph:=some p}}:=Ze hg _;rw[e];simp[ht]
    obtain⟨m,H',a,e,r,hi,ks,ps,res⟩:=WkH _ h1 hg1 rfl hpe (zD _);refine⟨H',a,e,.inr ⟨t,p,m,hs,r⟩,⟨hi,ks,(Q4 _ _ _).trans (Wiq r),Wlz hg hn ps⟩,?_⟩;rcases res with⟨r1,r2,r3⟩|⟨r1,r2,r3⟩
    ·exact .inl ⟨r1,r2,r3⟩
    ·exact .inr ⟨r1,r2,⟨hsz.1,hsz.2,hok⟩,cl,r3,hcl⟩
   ·cases hq
  ·cases hq
def FreE (H:Hw)(thread addr:Int)(H':Hw)(e:Int):Prop:=
 (e≠0/\H'=H/\QL H thread 1 0 0 addr=.inl e)\/((∃p,QL H thread 1 0 0 addr=.inr p)/\mget H.live addr=none/\e≠0/\H'.live=H.live)\/((∃p,QL H thread 1 0 0 addr=.inr p)/\∃b,mget H.live addr=some b/\e=0/\H'.live=mdel H.live addr)
end Go.Ar
namespace Go.Ar
open Go Go.Vc Go.Proofs
variable {σ u w w':Hp}{F B P Q:Rg}{L:LayH}{H H':Hw}{t n k:Nat}{A:AR}{Y:Lay}
theorem Fr.refl (A:AR):Fr A A:=⟨rfl,rfl,rfl⟩
theorem Fr.trans {A B C:AR}(h:Fr B A)(k:Fr C B):Fr C A:=⟨k.1.trans h.1,k.2.1.trans h.2.1,k.2.2.trans h.2.2⟩
end Go.Ar
namespace Go.Ar
variable {A:AR}
def newW (tb:List Cls)(n room m:Nat):Wd:=⟨tb,Kw n,List.replicate m (newA n room tb),[]⟩
theorem Wki {n room:Nat}{tb:List Cls}(h1:32<=n)(h2:n<=1024)(h3:n%16=0)(h6:tb.length<=40)(h7:∀c∈tb,c.ok):GA (newA n room tb)/\∀p,(newA n room tb).f p=0:=by
 have hf:∀p,(newA n room tb).f p=0:=λp=>by
  show(List.replicate n 0).getD p 0=0;rw[zO,zAT];split<;>rfl
 have hcen:∀{k:Nat} {ss:List SpA},(List.replicate tb.length ([]:List SpA))[k]?=some ss->ss=[]:=λh=>by
  rw[zAT]at h;split at h<;>simp at h;exact h
 have htra:∀{k:Nat} {t:TrA},(List.replicate tb.length (⟨0,[]⟩:TrA))[k]?=some t->t.bs=[]:=λh=>by
  rw[zAT]at h;split at h<;>simp at h;rw[←h]
 refine⟨⟨⟨by simp[newA],h1,h2,h3,λp=>by rw[hf];omega,λp=>by rw[hf];simp[newA],λp=>by rw[hf];simp[newA,Go.Bu.emptyS],λp=>by rw[hf,hf]⟩,h6,by simp[newA],by simp[newA],λk c ss hc=>?_,λk c ss hc s hs=>?_,λk c ss hc p=>?_,λp=>?_,λp=>.inr (Nat.zero_le _),by simp[newA],by simp[newA],λk t ht=>?_,λk c ss t hc ht=>?_,λk c t hc ht=>?_⟩,hf⟩
 ·have e:=hcen hc.2;subst e;exact⟨h7 c (zE hc.1),by simp,by simp⟩
 ·have e:=hcen hc.2;subst e;simp at hs
 ·have e:=hcen hc.2;subst e;constructor
  ·intro h;cases h
  ·rintro⟨s,hs,_⟩;simp at hs
 ·constructor
  ·intro h;cases h
  ·rintro⟨r,hr,_⟩;simp[newA]at hr
 ·have:=htra ht;rw[this];exact zCE
 ·have:=htra ht;rw[this];simp
 ·have:=htra ht;rw[this];simp
theorem WjX {tb:List Cls}{n room m:Nat}(h1:32<=n)(h2:n<=1024)(h3:n%16=0)(h6:tb.length<=40)(h7:∀c∈tb,c.ok):WI (newW tb n room m):=by
 obtain⟨ga,hf⟩:=Wki (room:=room) h1 h2 h3 h6 h7;have get:∀{k:Nat} {A:AR},(newW tb n room m).ars[k]?=some A->A=newA n room tb:=λ{k A} h=>by
  have h:(List.replicate m (newA n room tb))[k]?=some A:=h;rw[zAT]at h;split at h<;>simp at h;exact h.symm
 have hsp:∀p,gf (Kw n).st p=0:=λp=>by
  show(List.replicate n 0).getD p 0=0;rw[zO,zAT];split<;>rfl
 refine⟨λk A h=>by rw[get h];exact ga,λk A h=>?_,λk A h=>by rw[get h];rfl,λk A h p hp=>by rw[get h];exact hf p,λp hp=>(hp (hsp p)).elim,λp k l A B hA hB h1 h2=>?_,zCE,λp hp=>by simp[newW]at hp,λk A h j y hy=>?_,λk A h r hr=>?_⟩
 ·rw[get h];exact⟨by simp[newW,Kw,newA],λp hp=>(hp (hf p)).elim,λp hp=>by rw[hf p]at hp;omega,λp=>by show gf (Kw n).st p<=2;rw[hsp];omega⟩
 ·rw[get hA]at h1;exact(h1 (hf p)).elim
 ·rw[get h]at hy;obtain⟨c,ss,hc,ht⟩:=hy;have hss:ss=[]:=by
   have h2:=hc.2;simp only[newA]at h2;rw[zAT]at h2;split at h2<;>simp at h2;exact h2
  subst hss;obtain⟨k',s,i,hs,_⟩:=(KW (ga.cen _ _ _ hc)).1 ht;simp at hs
 ·rw[get h]at hr;simp[newA]at hr
end Go.Ar
namespace Go.Ar
open Go.Vc (mget mset mdel)
variable {H H':Hw}{held:List Pc}{s0:Sp}{t k j:Nat}{g:Th}{A:AR}{c:Cls}
theorem WkN {tb:List Cls}{cf:Cf}(h1:32<=cf.pages)(h2:cf.pages<=1024)(h3:cf.pages%16=0)(h4:1<=cf.arenas)(h6:tb.length<=40)(h7:∀c∈tb,c.ok):HI (KY tb cf) [] (Kw cf.pages):=by
 have wi:=WjX (tb:=tb) (n:=cf.pages) (room:=cf.room) (m:=cf.arenas) h1 h2 h3 h6 h7;have thg:∀g∈(KY tb cf).ths,g=⟨List.replicate tb.length liN,[],none⟩:=λg hg=>(zER.1 hg).2;have li0:∀k,(List.replicate tb.length liN).getD k liN=liN:=λk=>by
  rw[zO,zAT];split<;>rfl
 refine⟨wi,Sim.refl _,λk x=>?_,zCE,λe he=>by simp[KY]at he,λg hg s a hp=>?_,λg hg=>?_,h7,?_,?_⟩
 ·have hz:∀(n:Nat) (f:Th->Nat) (g:Th),f g=0->((List.replicate n g).map f).sum=0:=λn f g h=>by
   rw[zCX,h]
   induction n with
   | zero=>rfl
   | succ n ih=>rw[zEI,zp,ih]
  have h0:cnT ⟨List.replicate tb.length liN,[],none⟩ k x=0:=by
   unfold cnT cnL;split
   ·simp only[li0];rfl
   ·rfl
  have:cnH (KY tb cf) k x=0:=by
   unfold cnH;show cnV [] k x+((List.replicate cf.threads (⟨List.replicate tb.length liN,[],none⟩:Th)).map λg=>cnT g k x).sum=0;rw[hz _ _ _ h0];rfl
  rw[this,Qt];rintro⟨p,hp,_⟩;simp at hp
 ·rw[thg g hg]at hp;cases hp
 ·rw[thg g hg];refine⟨by simp[KY],λl hl=>?_,λb hb=>by simp at hb,by simp,by unfold PhI;rfl⟩;rw[(zER.1 hl).2];exact⟨LiOk.nil,by simp[liN]⟩
 ·show 1<=(List.replicate cf.arenas (newA cf.pages cf.room tb)).length;simpa using h4
 ·show(List.replicate cf.pages 0).length=cf.pages;simp
def KL (H H':Hw):Prop:=∀e∈H.live,∀w:Nat,e.1<=((8*w:Nat):Int)->((8*w:Nat):Int)<e.1+e.2.2.1->H'.sp.wd w=H.sp.wd w
theorem HI.wi' (h:HI H held s0):WI ⟨H.tb,s0,H.ars,held⟩:=h.wi
theorem HI.mapped (h:HI H held s0){p:Pc}(hp:p∈held){x:Nat}(h1:p.addr<=x)(h2:x<p.addr+p.size):gf H.sp.st (x/256)≠0:=by
 obtain⟨A,hA,_⟩:=h.wi.hf p hp;have e1:=h.wi.page hp hA h1 h2;have:=(h.wi.ow _ A hA).own (x/256) (by omega);intro hz;exact this ((h.sim.z _).1 hz)
theorem HI.kl (h:HI H held s0)(k:KS H.sp H'.sp):KL H H':=λe he w h1 h2=>by
 obtain⟨_,p,hp,_,_,h3,h4,_⟩:=h.lv e he;have hm:=h.mapped hp (x:=8*w) (by omega) (by omega);exact(k.k _ hm).2 w (by omega)
theorem KL.refl (H:Hw):KL H H:=λ_ _ _ _ _=>rfl
theorem KL.trans {H1 H2 H3:Hw}(a:KL H1 H2)(b:KL H2 H3)(hl:∀e∈H1.live,e∈H2.live):KL H1 H3:=λe he w h1 h2=>(b e (hl e he) w h1 h2).trans (a e he w h1 h2)
structure ArOk (H H':Hw):Prop where
 hi:∃held s0,HI H' held s0
 live:H'.live=H.live
 ths:H'.ths=H.ths
 kp:ZW H' H
 kl:KL H H'
theorem ArOk.refl (h:HI H held s0):ArOk H H:=⟨⟨_,_,h⟩,rfl,rfl,ZW.refl _,KL.refl _⟩
theorem ArOk.trans {H1 H2 H3:Hw}(a:ArOk H1 H2)(b:ArOk H2 H3):ArOk H1 H3:=⟨b.hi,b.live.trans a.live,b.ths.trans a.ths,a.kp.trans b.kp,a.kl.trans b.kl λe he=>by rw[a.live];exact he⟩
theorem HI.n (h:HI H held s0)(hk:H.ars[k]?=some A):A.n=H.cf.pages:=by
 have:=(h.wi.ow k A hk).l;have h2:=h.sim.l;have h3:=h.sl;simp only at this;omega
theorem WI.wd {W:Wd}(h:WI W)(f:Nat->Int):WI {W with sp:={W.sp with wd:=f}}:=
 ⟨h.ga,λk A hk=>⟨(h.ow k A hk).l,(h.ow k A hk).own,(h.ow k A hk).cl,(h.ow k A hk).le⟩,h.tb,h.low,h.own,h.one,h.hk,h.hf,h.ht,h.hr⟩
end Go.Ar
namespace Go.Ar
open Go Go.Vc Go.Proofs
variable {σ u w w':Hp}{F B P Q:Rg}{L:LayH}{H H':Hw}{t n:Nat}{g:Th}
end Go.Ar
namespace Go.Proofs
open Go.Vc
set_option maxRecDepth 100000
def WE.h:Hn:=.q .o2 (.q (.q (.reg (.seq [.op,.op,.op,.grd false 2 [.op,.op]])) (.c (.q .o2 .l) .l)) (.q .o1 (.q .o1 (.q (.k (.loop [(4,.one .s),(5,.I)] (.q (.q .o2 (.c .l .l)) (.k (.q .o7 .o6))))) (.q .o6 (.q .o1 (.q (.q .o1 (.k (.loop [(6,.one .s),(7,.I)] (.q (.q .o4 (.c .l .l)) (.q (.k (.q (.reg (.heldJ true [] [(70,.one .b)] (.take 0 (.take 1 (.take 2 (.take 3 (.take 4 (.take 5 (.split 43 (.take 6 (.take 7 (.take 8 (.take 9 (.take 10 (.take 11 (.take 12 (.take 13 (.take 14 (.take 15 (.take 16 (.take 17 (.take 18 (.take 19 (.take 20 (.take 21 (.take 22 (.take 23 (.take 24 (.take 25 (.take 26 (.take 27 (.take 28 (.take 29 (.take 30 (.take 31 (.take 32 (.done)))))))))))))))))))))))))))) (.take 6 (.take 7 (.take 8 (.take 9 (.take 10 (.take 11 (.take 12 (.take 13 (.take 14 (.take 15 (.take 16 (.take 17 (.take 18 (.take 19 (.split 57 (.take 20 (.take 21 (.take 22 (.take 23 (.take 24 (.take 25 (.take 26 (.take 27 (.take 28 (.take 29 (.take 30 (.take 31 (.take 32 (.done)))))))))))))) (.take 20 (.take 21 (.take 22 (.take 23 (.take 25 (.take 26 (.take 27 (.take 28 (.take 29 (.all [(24,.all [(30,.take 31 (.take 32 (.done)))])])))))))))))))))))))))))))))))))))) (.c .o8 .l))) .o3))))) (.q .o3 .l))))))))
def WE.v (a:Int)(b:Hp)(c:Sl->Int->Hp->Prop):Prop:=JnB (λd e=>If d (c ⟨none,0,0⟩ 1 e) (XL [.s,(.i .i64)] (λf=>f ⟨none,0,0⟩ 8 e) λg (h:Sl) (i:Int) j=>If (i<512) (W4.c i a j λk l m n=>Nw (.cells #[.I k,.I l,.I m] 31 (0,0)) n λo p=>App h 3 24 31 [.I 0,.I 0,.I 0] ⟨some o,1,1⟩ p λq r=>XF.c i a r λs t=>Ar .i64 (i+s) λu=>g q u t) (W4.c 512 a j λv w x y=>Nw (.cells #[.I v,.I w,.I x] 31 (0,0)) y λz aa=>App h 3 24 31 [.I 0,.I 0,.I 0] ⟨some z,1,1⟩ aa λab ac=>XL [.s,(.i .i64)] (λad=>ad ⟨none,0,0⟩ 0 ac) λae (af:Sl) (ag:Int) ah=>If (ag<((ab.len:Nat):Int)) (Jn [.b] (λ(ai:Bool) aj=>If ai (Ix ab.a ab.len ag 3 λak=>LdI .i64 (ak.add 0) aj λal=>LdI .i64 (ak.add 1) aj λam=>LdI .i64 (ak.add 2) aj λan=>Nw (.cells #[.I al,.I am,.I an] 31 (0,0)) aj λao ap=>App af 3 24 31 [.I 0,.I 0,.I 0] ⟨some ao,1,1⟩ ap λaq ar=>Ar .i64 (ag+1) λau=>ae aq au ar) (Ar .i64 (ag+1) λav=>ae af av aj)) λaw=>Held ah λax=>Ar .i64 (((ab.len:Nat):Int)-1) λay=>If (ag==ay) (aw true ah) (Ix ab.a ab.len ag 3 λaz=>LdH ax (.i .i64) (az.add 1) λ(a0:Int)=>Ar .i64 (ag+1) λa1=>Ix ab.a ab.len a1 3 λa2=>LdH ax (.i .i64) (a2.add 1) λ(a3:Int)=>If (a0 != a3) (aw true ah) (Ix ab.a ab.len ag 3 λa4=>LdH ax (.i .i64) (a4.add 0) λ(a5:Int)=>LdH ax (.i .i64) (a4.add 1) λ(a6:Int)=>LdH ax (.i .i64) (a4.add 2) λ(a7:Int)=>Ar .i64 (ag+1) λa8=>Ix ab.a ab.len a8 3 λa9=>LdH ax (.i .i64) (a9.add 0) λ(ba:Int)=>LdH ax (.i .i64) (a9.add 1) λ(bb:Int)=>LdH ax (.i .i64) (a9.add 2) λ(bc:Int)=>Wx.c a5 a6 a7 ah λbd be=>And (ax be) <|
 Wx.c ba bb bc be λbf bg=>And (ax bg) <| aw (bd != bf) bg))) (c af 0 ah)))) λbh=>If (a<2) (bh true b) (bh (decide (a>16)) b)
theorem WE.o {a b c}(d:WE.v a b c):WE.c a b c:=Wa Tryz.func16 (x:=WE.h) (R0 d)
def Xn.h:Hn:=.q .o2 (.q (.q .o3 (.c (.q .o2 .l) .l)) (.q (.q (.reg (.seq [.op,.op,.op,.grd false 3 (RI.ops 3)])) (.c (.q .o2 .l) .l)) (.q (.q .o1 (.k (.loop [(8,.I)] (.q (.q .o4 (.c .l .l)) (.q (.k (.q (.reg (.seq [.op,.op,.op,.op,.op,.op,.op,.op,.grd true 8 (RI.ops 8)])) (.c (.q .o3 .l) .l))) .o3))))) (.q .o2 .l))))
def Xn.v (a:Sl)(b c:Int)(d:Hp)(e:Int->Int->Hp->Prop):Prop:=Xk.c a d λf g=>If (!f) (e 0 2 g) (JnB (λh i=>If h (e 0 1 i) (XL [(.i .i64)] (λj=>j 0 i) λk (l:Int) m=>If (l<((a.len:Nat):Int)) (Ix a.a a.len l 3 λn=>LdI .i64 (n.add 0) m λo=>JnB (λp q=>If p (e l 0 q) (Ar .i64 (l+1) λr=>k r q)) λs=>If (o≥b) (Ix a.a a.len l 3 λt=>LdI .i64 (t.add 0) m λu=>Nz c <| s ((u.tmod c)==0) m) (s false m)) (e 0 4 m))) λv=>If (b<1) (v true g) (Xm.c c 256 g λw x=>v (!w) x))
theorem Xn.o {a b c d e}(f:Xn.v a b c d e):Xn.c a b c d e:=Wa Tryz.func17 (x:=Xn.h) (R0 f)
def Wx.h:Hn:=.q .o2 (.q .o1 (.q (.k (.loop [(3,.I)] (.q (.q .o9 (.c .l .l)) (.k .o3)))) (.q .o2 .l)))
def Wx.v (a b c:Int)(d:Hp)(e:Int->Hp->Prop):Prop:=Nw (.cells #[.I a,.I b,.I c] 31 (0,0)) d λf g=>XL [(.i .i64)] (λh=>h 0 g) λi (j:Int) k=>Ar .i64 (j+1) λl=>LdI .i64 (f.add 0) k λm=>Ar .i64 (l*m) λn=>LdI .i64 (f.add 1) k λo=>Ar .i64 (o*256) λp=>If (n<=p) (Ar .i64 (j+1) λq=>i q k) (e j k)
theorem Wx.o {a b c d e}(f:Wx.v a b c d e):Wx.c a b c d e:=Wa Tryz.func18 (x:=Wx.h) (R0 f)
def Xk.h:Hn:=.q .o1 (.q (.q (.reg (.seq [.op,.op,.op,.op,.grd false 3 (RI.ops 3)])) (.c (.q .o1 .l) .l)) (.q (.q .o1 (.k (.loop [(3,.I)] (.q (.q .o4 (.c .l .l)) (.q (.k (.q (.reg (.heldJ true [4] [(41,.one .b)] (.take 0 (.take 1 (.take 2 (.take 3 (.all [(4,.take 5 (.take 6 (.split 24 (.take 7 (.take 8 (.take 9 (.take 10 (.take 11 (.take 12 (.take 13 (.take 14 (.take 15 (.take 16 (.take 17 (.take 18 (.take 19 (.take 20 (.take 21 (.take 22 (.take 23 (.done)))))))))))))))))) (.take 7 (.take 8 (.take 9 (.split 27 (.take 10 (.take 11 (.take 12 (.take 13 (.take 14 (.take 16 (.take 17 (.take 18 (.take 19 (.all [(15,.all [(20,.take 21 (.take 22 (.take 23 (.done))))]),(20,.all [(15,.take 21 (.take 22 (.take 23 (.done))))])])))))))))) (.take 10 (.take 11 (.take 12 (.take 13 (.take 14 (.take 15 (.take 16 (.take 17 (.take 18 (.take 19 (.take 20 (.take 21 (.take 22 (.take 23 (.done))))))))))))))))))))))]))))))) (.c (.q .o1 .l) .l))) .o3))))) (.q .o1 .l)))
def Xk.v (a:Sl)(b:Hp)(c:Bool->Hp->Prop):Prop:=JnB (λd e=>If d (c false e) (XL [(.i .i64)] (λf=>f 0 e) λg (h:Int) i=>If (h<((a.len:Nat):Int)) (Jn [.b] (λ(j:Bool) k=>If j (c false k) (Ar .i64 (h+1) λl=>g l k)) λm=>Held i λn=>Ix a.a a.len h 3 λo=>LdH n (.i .i64) (o.add 0) λ(p:Int)=>LdH n (.i .i64) (o.add 1) λ(q:Int)=>LdH n (.i .i64) (o.add 2) λ(r:Int)=>Xh.c p q r i λs t=>If (!s) (m true t) (If (h>0) (Ar .i64 (h-1) λu=>Ix a.a a.len u 3 λv=>Ix a.a a.len h 3 λw=>(LdI .i64 (v.add 0) t λx=>LdI .i64 (w.add 0) t λy=>m (decide (x≥y)) t) ∧ (LdI .i64 (w.add 0) t λz=>LdI .i64 (v.add 0) t λaa=>m (decide (aa≥z)) t)) (m false t))) (c true i))) λab=>If (((a.len:Nat):Int)<1) (ab true b) (ab (decide (((a.len:Nat):Int)>40)) b)
theorem Xk.o {a b c}(d:Xk.v a b c):Xk.c a b c:=Wa Tryz.func44 (x:=Xk.h) (R0 d)
def W4.h:Hn:=.q .o1 (.q .o8 (.q (.q .o1 (.k (.loop [(6,.I)] (.q (.q .o2 (.c .l .l)) (.q (.k (.q (.reg (.seq [.op,.op,.op,.op,.op,.grd true 9 (RI.ops 9)])) (.c .o3 .l))) .o3))))) (.q .o2 .l)))
def W4.v (a b:Int)(c:Hp)(d:Int->Int->Int->Hp->Prop):Prop:=Nw (.cells #[.I 0,.I 0,.I 0] 31 (0,0)) c λe f=>Nz a<|Ar .i64 ((512:Int).tdiv a) λg=>Nw (.cells #[.I 0,.I 0,.I 0] 31 (0,0)) f λh i=>St1 (h.add 0) (.I a) i λj=>St1 (h.add 1) (.I 4) j λk=>St1 (h.add 2) (.I (if 32<(if 2>g then 2 else g)then 32 else(if 2>g then 2 else g))) k λl=>XL [(.i .i64)] (λm=>m 4 l) λn (o:Int) p=>If (o≥1) (Ar .i64 (o*256) λq=>JnB (λr s=>If r (St1 (h.add 1) (.I o) s λt=>Ar .i64 (o-1) λu=>n u t) (Ar .i64 (o-1) λv=>n v s)) λw=>If (q≥a) (Ar .i64 (o*256) λx=>Nz a <| Ar .i64 (b*(x.tmod a)) λy=>Ar .i64 (o*256) λz=>w (decide (y<=z)) p) (w false p)) (LdI .i64 (h.add 0) p λaa=>LdI .i64 (h.add 1) p λab=>LdI .i64 (h.add 2) p λac=>St1 (e.add 0) (.I aa) p λad=>St1 (e.add 1) (.I ab) ad λae=>St1 (e.add 2) (.I ac) ae λaf=>LdI .i64 (e.add 0) af λag=>LdI .i64 (e.add 1) af λah=>LdI .i64 (e.add 2) af λai=>d ag ah ai af)
theorem W4.o {a b c d}(e:W4.v a b c d):W4.c a b c d:=Wa Tryz.func47 (x:=W4.h) (R0 e)
def XF.h:Hn:=.q .o1 (.q .o1 (.q (.k (.loop [(5,.I)] (.q (.q .o6 (.c .l .l)) (.k .o3)))) (.q .o2 .l)))
def XF.v (a b:Int)(c:Hp)(d:Int->Hp->Prop):Prop:=XL [(.i .i64)] (λe=>e 8 c) λf (g:Int) h=>Ar .i64 (2*g) λi=>Nz b<|Ar .i64 (a.tdiv b) λj=>If (i<=j) (Ar .i64 (2*g) λk=>f k h) (d g h)
theorem XF.o {a b c d}(e:XF.v a b c d):XF.c a b c d:=Wa Tryz.func48 (x:=XF.h) (R0 e)
def Xm.h:Hn:=.q .o1 (.q (.q .o1 (.k (.loop [(5,.I)] (.q (.q .o3 (.c .l .l)) (.q (.k (.q .o3 (.c (.q .o1 .l) .l))) .o3))))) (.q .o1 .l))
def Xm.v (a b:Int)(c:Hp)(d:Bool->Hp->Prop):Prop:=XL [(.i .i64)] (λe=>e 1 c) λf (g:Int) h=>If (g<=b) (If (g==a) (d true h) (Ar .i64 (2*g) λi=>f i h)) (d false h)
theorem Xm.o {a b c d}(e:Xm.v a b c d):Xm.c a b c d:=Wa Tryz.func49 (x:=Xm.h) (R0 e)
def Xh.h:Hn:=.q .o2 (.q (.reg (.seq [.op,.op,.op,.op,.grd true 3 (RI.ops 3),.op,.grd true 4 (RI.ops 4),.op,.grd true 3 (RI.ops 3),.op,.grd true 3 (RI.ops 3),.op,.grd true 6 (RI.ops 6),.op,.grd true 3 (RI.ops 3),.op,.grd true 3 (RI.ops 3),.op])) .l)
def Xh.v (a b c:Int)(d:Hp)(e:Bool->Hp->Prop):Prop:=Nw (.cells #[.I a,.I b,.I c] 31 (0,0)) d λf g=>LdI .i64 (f.add 0) g λh=>JnB (λi j=>JnB (λk l=>JnB (λm n=>JnB (λo p=>JnB (λq r=>JnB (λs t=>JnB (λu v=>e u v) λw=>If s (LdI .i64 (f.add 2) t λx=>w (decide (x<=32)) t) (w false t)) λy=>If q (LdI .i64 (f.add 2) r λz=>y (decide (z≥1)) r) (y false r)) λaa=>If o (LdI .i64 (f.add 1) p λab=>Ar .i64 (ab*256) λac=>LdI .i64 (f.add 0) p λad=>aa (decide (ac≥ad)) p) (aa false p)) λae=>If m (LdI .i64 (f.add 1) n λaf=>ae (decide (af<=4)) n) (ae false n)) λag=>If k (LdI .i64 (f.add 1) l λah=>ag (decide (ah≥1)) l) (ag false l)) λai=>If i (LdI .i64 (f.add 0) j λaj=>Nz 8 <| ai ((aj.tmod 8)==0) j) (ai false j)) λak=>If (h≥8) (LdI .i64 (f.add 0) g λal=>ak (decide (al<=512)) g) (ak false g)
theorem Xh.o {a b c d e}(f:Xh.v a b c d e):Xh.c a b c d e:=Wa Tryz.func82 (x:=Xh.h) (R0 f)
end Go.Proofs
namespace Go.Ar
open Go Go.Vc Go.Proofs
variable {σ w:Hp}
abbrev T3:=Int×Int×Int
def v3 (x:T3):List Value:=[.int .i64 x.1,.int .i64 x.2.1,.int .i64 x.2.2]
def v3s (l:List T3):List Value:=l.flatMap v3
theorem Wcp (l:List T3):(v3s l).length=l.length*3:=by
 induction l with
 | nil=>rfl
 | cons x l ih=>simp only[v3s,zBN,zJ,v3,zU,zAH]at *;omega
theorem Whq (l:List T3)(x:T3):v3s (l++[x])=v3s l++v3 x:=by simp[v3s]
theorem WaC:∀{l:List T3} {i:Nat} {x:T3},l[i]?=some x->∀{d:Nat},d<3->(v3s l)[i*3+d]?=(v3 x)[d]?
 | [],_,_,h,_,_=>by simp at h
 | y::l,0,x,h,d,hd=>by
  simp at h;subst h;have e:v3s (y::l)=v3 y++v3s l:=rfl;rw[e,zd (by simp[v3];omega)];congr 1;omega
 | y::l,i+1,x,h,d,hd=>by
  have e:v3s (y::l)=v3 y++v3s l:=rfl;have e3:(v3 y).length=3:=rfl;rw[e,zk (by omega),e3,show(i+1)*3+d-3=i*3+d by omega];exact WaC (by simpa using h) hd
theorem Wdg {Q:Rg}{s:Sl}{l:List T3}(h:Own Q σ s 3 (v3s l)):Acts σ s l:=by
 have hl:=h.1;rw[Wcp]at hl;refine⟨by omega,λi x y z hx=>?_⟩;obtain⟨b,ha,h0⟩:=h.cell (j:=i*3+0) (v:=.int .i64 x) ((WaC hx (by omega)).trans rfl);obtain⟨b',ha',h1⟩:=h.cell (j:=i*3+1) (v:=.int .i64 y) ((WaC hx (by omega)).trans rfl);rw[ha]at ha';cases ha';obtain⟨b',ha',h2⟩:=h.cell (j:=i*3+2) (v:=.int .i64 z) ((WaC hx (by omega)).trans rfl);rw[ha]at ha';cases ha';refine⟨b,0,ha,ZB h0,?_,?_,?_⟩
 ·rw[show 0+i*3=i*3+0 by omega];exact h0
 ·rw[show 0+i*3+1=i*3+1 by omega];exact h1
 ·rw[show 0+i*3+2=i*3+2 by omega];exact h2
def Gj (s w:Int)(n:Nat):Int:=([4,3,2,1].take n).foldl (λ(r p:Int)=>if s<=p*256/\w*((p*256)%s)<=p*256 then p else r) 4
def Wdx (s:Int):Int:=min 32 (max 2 (512/s))
def mCls (s w:Int):T3:=(s,Gj s w 4,Wdx s)
def stF:Nat->Int->Int->Int
 | 0,d,_=>d
 | n+1,d,q=>if 2*d<=q then stF n (2*d) q else d
def Wfh (s w:Int):Int:=stF 8 8 (s/w)
def mObj (x:T3):Int:=x.2.1*256/x.1
theorem We6 (s w:Int)(n:Nat):1<=Gj s w n/\Gj s w n<=4:=by
 have key:∀(l:List Int) (r:Int),(∀p∈l,1<=p/\p<=4)->1<=r/\r<=4->1<=l.foldl (λ(r p:Int)=>if s<=p*256/\w*((p*256)%s)<=p*256 then p else r) r/\l.foldl (λ(r p:Int)=>if s<=p*256/\w*((p*256)%s)<=p*256 then p else r) r<=4:=by
  intro l
  induction l with
  | nil=>intro r _ h;exact h
  | cons p l ih=>
   intro r hl hr;rw[zBV];refine ih _ (λq hq=>hl q (zBK _ hq)) ?_;split
   ·exact hl p zCC
   ·exact hr
 refine key _ _ (λp hp=>?_) (by omega);have:=zBS hp;simp at this;omega
theorem Wb5 (s w:Int)(h1:8<=s)(h2:s<=512)(hw1:2<=w)(hw2:w<=16){R:Int->Int->Int->Hp->Prop}(hR:∀σ',Ext0 σ σ'->R (mCls s w).1 (mCls s w).2.1 (mCls s w).2.2 σ'):W4.c s w σ R:=by
 refine W4.o ?_;unfold W4.v;have hb0:1<=512/s/\512/s<=64:=⟨by rw[Int.le_ediv_iff_mul_le (by omega)];omega,Int.ediv_le_of_le_mul (by omega) (by omega)⟩;refine nw (cs:=[.int .i64 0,.int .i64 0,.int .i64 0]) λv hz e hb=>nz (by omega) (ar (by rw[YQ (by omega)];omega) (by rw[YQ (by omega)];omega) ?_);rw[YQ (by omega)];refine nw (cs:=[.int .i64 0,.int .i64 0,.int .i64 0]) λv1 hz1 e1 hb1=>hb1.s1 (by simp) λv2 o2 b2=>b2.s1 (by simp) λv3' o3 b3=>b3.s1 (by simp) λv4 o4 b4=>?_;have hne:σ.size≠v.size:=by omega
 have hbv:=Wr o4 (Wr o3 (Wr o2 (e1.blk hb id) hne) hne) hne;have e4:Ext0 σ v4:=((((e.trans e1).only o2 (.inr (by omega))).only o3 (.inr (by omega))).only o4 (.inr (by omega)));have hbat:(if 32<(if 2>512/s then 2 else 512/s)then 32 else(if 2>512/s then 2 else 512/s))=Wdx s:=by unfold Wdx;omega
 rw[hbat]at b4;refine Zw (a:=.i .i64) (λ(z:Int) u=>∃n:Nat,n<=4/\z=4-(n:Int)/\Ext0 σ u/\Blk u σ.size [.int .i64 0,.int .i64 0,.int .i64 0]/\Blk u v.size [.int .i64 s,.int .i64 (Gj s w n),.int .i64 (Wdx s)]) (λz _=>z.toNat) ⟨0,by omega,rfl,e4,hbv,b4⟩ ?_;rintro(z:Int) u ⟨n,hn,rfl,eu,hu,bu⟩;refine ifD (λhge=>?_) λhlt=>?_
 ·have hn3:n<4:=by omega
  have hsn:Gj s w (n+1)=if s<=(4-(n:Int))*256/\w*(((4-(n:Int))*256)%s)<=(4-(n:Int))*256 then 4-(n:Int)else Gj s w n:=by
   have ht:([4,3,2,1]:List Int)[n]?=some (4-(n:Int)):=by
    rcases(show n=0\/n=1\/n=2\/n=3 by omega)with rfl|rfl|rfl|rfl<;>rfl
   unfold Gj;rw[zr,ht,zFG];rfl
  refine ar (by omega) (by omega) ?_;refine Kc (λr u'=>u'=u/\r=decide (s<=(4-(n:Int))*256/\w*(((4-(n:Int))*256)%s)<=(4-(n:Int))*256)) (λr u' ⟨hu',hr⟩=>?_) λJ hJ=>?_
  ·subst hu';by_cases hc:s<=(4-(n:Int))*256/\w*(((4-(n:Int))*256)%s)<=(4-(n:Int))*256
   ·rw[zQ hc]at hr;rw[zB hc]at hsn;refine ifT hr (bu.s1 (by simp) λu1 o1 b1=>ar (by omega) (by omega) ⟨⟨n+1,by omega,by omega,eu.only o1 (.inr (by omega)),Wr o1 hu hne,by rw[hsn];exact b1⟩,by omega⟩)
   ·rw[zT hc]at hr;rw[zA hc]at hsn;exact ifF hr (ar (by omega) (by omega) ⟨⟨n+1,by omega,by omega,eu,hu,by rw[hsn];exact bu⟩,by omega⟩)
  ·have hm1:=Int.emod_nonneg ((4-(n:Int))*256) (show s≠0 by omega);have hm2:=Int.emod_lt_of_pos ((4-(n:Int))*256) (show 0<s by omega);have hm3:w*(((4-(n:Int))*256)%s)<=16*512:=Int.mul_le_mul hw2 (by omega) hm1 (by omega);have hm4:0<=w*(((4-(n:Int))*256)%s):=Int.mul_nonneg (by omega) hm1;refine ifD (λh1=>ar (by omega) (by omega) (nz (by omega) ?_)) λh1=>hJ _ _ ⟨rfl,(zT λhx=>h1 hx.1).symm⟩;rw[Qw (by omega)];refine ar (by omega) (by omega) (ar (by omega) (by omega) (hJ _ _ ⟨rfl,?_⟩));rw[decide_eq_decide];exact⟨λhx=>⟨h1,hx⟩,λhx=>hx.2⟩
 ·have hn4:n=4:=by omega
  subst hn4;refine bu.rI rfl (bu.rI rfl (bu.rI rfl (hu.s1 (by simp) λu1 o1 b1=>b1.s1 (by simp) λu2 o2 b2=>b2.s1 (by simp) λu3 o3 b3=>b3.rI rfl (b3.rI rfl (b3.rI rfl (hR u3 ?_))))));exact((eu.only o1 (.inr (by omega))).only o2 (.inr (by omega))).only o3 (.inr (by omega))
theorem Wir (s w:Int)(h1:8<=s)(h2:s<=512)(hw1:2<=w){R:Int->Hp->Prop}(hR:8<=Wfh s w->Wfh s w<=256->R (Wfh s w) σ):XF.c s w σ R:=by
 refine XF.o ?_;unfold XF.v;have hq:0<=s/w/\s/w<=256:=⟨Int.ediv_nonneg (by omega) (by omega),by
  have:s/w<=s/2:=by
   apply Int.le_ediv_of_mul_le (by omega);have:=Int.ediv_mul_le s (show w≠0 by omega);have h3:s/w*2<=s/w*w:=Int.mul_le_mul_of_nonneg_left hw1 (Int.ediv_nonneg (by omega) (by omega));omega
  omega⟩
 refine Zw (a:=.i .i64) (λ(d:Int) u=>u=σ/\∃n:Nat,stF n d (s/w)=Wfh s w/\8<=d/\d<=256/\512<=d*2^n) (λd _=>1000-d.toNat) ⟨rfl,8,rfl,by omega,by omega,by decide⟩ ?_;rintro(d:Int) u ⟨rfl,n,hst,hd1,hd2,hdn⟩;refine ar (by omega) (by omega) (nz (by omega) (ar (by rw[YQ (by omega)];omega) (by rw[YQ (by omega)];omega) ?_));rw[YQ (by omega)];cases n with
 | zero=>simp at hdn;omega
 | succ n=>
  refine ifD (λhle=>ar (by omega) (by omega) ⟨⟨rfl,n,?_,by omega,by omega,?_⟩,by omega⟩) λhgt=>?_
  ·rw[stF,zB hle]at hst;exact hst
  ·rw[Int.pow_succ]at hdn;have:2*d*2^n=d*(2^n*2):=by rw[Int.mul_comm 2 d,Int.mul_assoc,Int.mul_comm 2 (2^n)]
   omega
  ·rw[stF,zA hgt]at hst;rw[←hst]at hR;exact hR hd1 hd2
theorem WcS (x:T3)(h1:8<=x.1)(h2:x.1<=512)(h3:1<=x.2.1)(h4:x.2.1<=4){R:Int->Hp->Prop}(hR:∀σ',Ext0 σ σ'->R (mObj x) σ'):Wx.c x.1 x.2.1 x.2.2 σ R:=by
 refine Wx.o ?_;unfold Wx.v;refine nw (cs:=[.int .i64 x.1,.int .i64 x.2.1,.int .i64 x.2.2]) λv hz e hb=>?_;refine Zw (a:=.i .i64) (λ(n:Int) u=>Ext0 σ u/\Blk u σ.size [.int .i64 x.1,.int .i64 x.2.1,.int .i64 x.2.2]/\0<=n/\n<=128/\n*x.1<=x.2.1*256) (λn _=>1000-n.toNat) ⟨e,hb,by omega,by omega,by omega⟩ ?_;rintro(n:Int) u ⟨eu,bu,hn0,hn1,hn⟩;have hm:(n+1)*x.1<=129*512:=Int.mul_le_mul (by omega) h2 (by omega) (by omega);have hm0:0<=(n+1)*x.1:=Int.mul_nonneg (by omega) (by omega);refine ar (by omega) (by omega) (bu.rI rfl (ar (by omega) (by omega) (bu.rI rfl (ar (by omega) (by omega) ?_))));refine ifD (λhle=>ar (by omega) (by omega) ⟨⟨eu,bu,by omega,?_,hle⟩,by omega⟩) λhgt=>?_
 ·have:(n+1)*8<=(n+1)*x.1:=Int.mul_le_mul_of_nonneg_left h1 (by omega);omega
 ·have:mObj x=n:=by
   unfold mObj;have a1:n<=x.2.1*256/x.1:=(Int.le_ediv_iff_mul_le (by omega)).2 hn;have a2:x.2.1*256/x.1<n+1:=(Int.ediv_lt_iff_lt_mul (by omega)).2 (by omega);omega
  have h5:=hR u eu;rw[this]at h5;exact h5
def allF:Nat->Int->Int->List T3
 | 0,_,_=>[]
 | n+1,s,w=>if s<512 then mCls s w::allF n (s+Wfh s w) w else[]
def allM (w:Int):List T3:=allF 64 8 w++[mCls 512 w]
def HY (l:List T3)(i:Nat):Bool:=i==l.length-1||(match l[i]?,l[i+1]? with
 | some x,some y=>x.2.1 != y.2.1||mObj x != mObj y
 | _,_=>false)
def outM (l:List T3)(n:Nat):List T3:=(List.range n).filterMap λi=>if HY l i then l[i]? else none
def UT (w:Int):List T3:=outM (allM w) (allM w).length
def T3ok (x:T3):Prop:=8<=x.1/\x.1<=512/\1<=x.2.1/\x.2.1<=4
theorem WfN (s w:Int)(h1:8<=s)(h2:s<=512):T3ok (mCls s w):=⟨h1,h2,We6 s w 4⟩
theorem app3 {Q:Rg}{s:Sl}{l:List T3}{e1 e2:Nat}(ho:Own Q σ s 3 (v3s l))(hQ:∀b,σ.size<=b->Q b)(hl:l.length<=1000)(x:T3){K:Sl->Hp->Prop}(hK:∀s' σ',Ext Q σ σ'->Own Q σ' s' 3 (v3s (l++[x]))->K s' σ') :
 Nw (.cells #[.int .i64 x.1,.int .i64 x.2.1,.int .i64 x.2.2] e1 (0,0)) σ λn20 v3=>App s 3 24 e2 [.int .i64 0,.int .i64 0,.int .i64 0] ⟨some n20,1,1⟩ v3 K:=by
 have hsl:s.len=l.length:=by have:=ho.1;rw[Wcp]at this;omega
 refine nw (cs:=v3 x) λv hz e hb=>?_;refine(ho.keep0 e).app (ys:=v3 x) (λb hb=>hQ b (by omega)) rfl rfl ?_ (by simp[v3,one1]) ?_ ?_ zBA λs' v' _ e' h' _=>hK s' v' ?_ ?_
 ·intro j u hu;rw[add_lit,zG,hb.cell];exact hu
 ·simp only;have:(s.len+1)*24<=1001*24:=zo (by omega) (by omega);omega
 ·simp only;omega
 ·exact(Ext0.to e).trans (e'.sub λb hb=>((ho.keep0 e).blk_lt hb).1)
 ·rw[Whq];exact h'
theorem Wis (w:Int)(h:w<2\/16<w){R:Sl->Int->Hp->Prop}(hR:R ⟨none,0,0⟩ 1 σ):WE.c w σ R:=by
 refine WE.o ?_;unfold WE.v;exact JnB.intro (ifD (λh1=>ifT rfl hR) λh1=>ifT (zQ (by omega)) hR)
theorem WfA (w:Int)(hw1:2<=w)(hw2:w<=16){R:Sl->Int->Hp->Prop}(hR:∀s' σ',Ext0 σ σ'->Acts σ' s' (UT w)->R s' 0 σ'):WE.c w σ R:=by
 refine WE.o ?_;unfold WE.v;refine JnB.intro (ifDF (by omega) (ifF (zT (by omega)) ?_));refine Ks (a:=.s) (bb:=.i .i64) (λ(all:Sl) (s:Int) u=>∃(n:Nat) (done:List T3),8<=s/\s<=768/\Ext0 σ u/\Own (λb=>σ.size<=b) u all 3 (v3s done)/\done++allF n s w=allF 64 8 w/\512<=s+8*(n:Int)/\(∀x∈done,T3ok x)/\done.length+n=64) (λ_ s _=>1000-s.toNat) ⟨64,[],by omega,by omega,Ext.refl _ _,Own.nil _ _ _,rfl,by omega,by simp,by simp⟩ ?_;rintro(all:Sl) (s:Int) u ⟨n,done,hs1,hs2,eu,ho,hdone,hn,hok,hlen⟩;refine ifD (λhlt=>?_) λhge=>?_
 ·obtain⟨n,rfl⟩:∃m,n=m+1:=⟨n-1,by omega⟩;refine Wb5 s w (by omega) (by omega) hw1 hw2 λv2 e2=>?_;refine app3 (ho.keep0 e2) (λb hb=>by have:=eu.1;have:=e2.1;omega) (by omega) (mCls s w) λall1 v4 e4 h4=>?_;have e04:Ext0 σ v4:=Ext.newT (eu.trans e2) e4 λb hb=>.inr hb;refine Wir s w (by omega) (by omega) hw1 λd1 d2=>ar (by omega) (by omega) ⟨⟨n,done++[mCls s w],by omega,by omega,e04,h4,?_,by omega,λx hx=>?_,by simp;omega⟩,by omega⟩
  ·rw[←hdone,zAC]
   congr 1
   conv=>rhs;rw[allF,zB hlt]
   rfl
  ·rcases zM.1 hx with h1|h1
   ·exact hok x h1
   ·rw[zR]at h1;subst h1;exact WfN s w (by omega) (by omega)
 ·have hnil:allF n s w=[]:=by
   cases n with
   | zero=>rfl
   | succ n=>rw[allF,zA hge]
  rw[hnil,zAL]at hdone;refine Wb5 512 w (by omega) (by omega) hw1 hw2 λv6 e6=>?_;refine app3 (ho.keep0 e6) (λb hb=>by have:=eu.1;have:=e6.1;omega) (by omega) (mCls 512 w) λall2 v8 e8 h8=>?_;have e08:Ext0 σ v8:=Ext.newT (eu.trans e6) e8 λb hb=>.inr hb;rw[hdone]at h8;have hok8:∀x∈allM w,T3ok x:=λx hx=>by
   rcases zM.1 hx with h1|h1
   ·rw[←hdone]at h1;exact hok x h1
   ·rw[zR]at h1;subst h1;exact WfN 512 w (by omega) (by omega)
  have hml:(allM w).length<=65:=by unfold allM;rw[←hdone];simp;omega
  have h8:Own (λb=>σ.size<=b) v8 all2 3 (v3s (allM w)):=h8;generalize hall:allM w=l at h8 hok8 hml;have hmk:UT w=outM l l.length:=by unfold UT;rw[hall]
  have hl2:all2.len=l.length:=by have:=h8.1;rw[Wcp]at this;omega
  refine Ks (a:=.s) (bb:=.i .i64) (λ(out:Sl) (z:Int) u=>∃i:Nat,z=(i:Int)/\i<=l.length/\Ext0 v8 u/\Own (λb=>v8.size<=b) u out 3 (v3s (outM l i))/\(outM l i).length<=i) (λ_ z _=>l.length-z.toNat) ⟨0,rfl,by omega,Ext.refl _ _,Own.nil _ _ _,by simp[outM]⟩ ?_;rintro(out:Sl) (z:Int) u ⟨i,rfl,hi,eu8,hout,hol⟩;refine ifD (λhlt=>?_) λhge=>?_
  ·have hi':i<l.length:=by omega
   have hx:l[i]?=some l[i]:=gGe hi';generalize l[i]=x at hx;have hxo:=hok8 x (zE hx);have hsn:outM l (i+1)=outM l i++(if HY l i then[x]else[]):=by
    unfold outM;rw[zBD,zDG]
    congr 1
    by_cases hk:HY l i=true
    ·simp[hk,hx]
    ·simp[hk]
   have hA:∀m,Ext0 u m->Acts m all2 l:=λm em=>Wdg (h8.keep0 (eu8.trans em));refine Wkm (λr u'=>Ext0 u u'/\r=HY l i) (λr u' ⟨eu',hr⟩=>?_) λJ3 hJ3=>?_
   ·have hou:=hout.keep0 eu';cases hk:HY l i with
    | true=>
     rw[hk]at hr hsn;refine ifT hr (K0 (hA u' eu') hx ?_);refine app3 hou (λb hb=>by have:=eu8.1;have:=eu'.1;omega) (by omega) x λout1 v12 e12 h12=>?_;refine arN (m:=i+1) (by omega) (by omega) ⟨⟨i+1,rfl,by omega,Ext.newT (eu8.trans eu') e12 λb hb=>.inr hb,?_,?_⟩,by omega⟩
     ·rw[hsn];exact h12
     ·rw[hsn];simp;omega
    | false=>
     rw[hk]at hr hsn;refine ifF hr (arN (m:=i+1) (by omega) (by omega) ⟨⟨i+1,rfl,by omega,eu8.trans eu',?_,?_⟩,by omega⟩)
     ·rw[hsn];simpa using hou
     ·rw[hsn];simp;omega
   ·refine⟨λm=>Ext0 u m,Ext.refl _ _,ar (by omega) (by omega) ?_⟩;refine iff_ (λhlast=>hJ3 _ _ ⟨Ext.refl _ _,?_⟩) λhnl=>?_
    ·have:i=l.length-1:=by simp only[zS]at hlast;omega
     unfold HY;rw[this];simp
    ·have hi2:i+1<l.length:=by simp only[zAR]at hnl;omega
     have hy:l[i+1]?=some l[i+1]:=gGe hi2;generalize l[i+1]=y at hy;have hyo:=hok8 y (zE hy);have hkp:HY l i=(x.2.1 != y.2.1||mObj x != mObj y):=by
      unfold HY;rw[hx,hy];have:(i==l.length-1)=false:=by simp only[zAR];omega
      rw[this];rfl
     have hcx:=λ(m:Hp) (em:Ext0 u m)=>(hA m em).2 i x.1 x.2.1 x.2.2 hx;have hcy:=λ(m:Hp) (em:Ext0 u m)=>(hA m em).2 (i+1) y.1 y.2.1 y.2.2 hy;obtain⟨b,o,ha,_,_⟩:=hcx u (Ext.refl _ _);have rx:∀m,Ext0 u m->cell m ⟨b,o+i*3,none⟩=some (.int .i64 x.1)/\cell m ⟨b,o+i*3+1,none⟩=some (.int .i64 x.2.1)/\cell m ⟨b,o+i*3+2,none⟩=some (.int .i64 x.2.2):=λm em=>by
      obtain⟨b',o',ha',_,h⟩:=hcx m em;rw[ha]at ha';cases ha';exact h
     have ry:∀m,Ext0 u m->cell m ⟨b,o+(i+1)*3,none⟩=some (.int .i64 y.1)/\cell m ⟨b,o+(i+1)*3+1,none⟩=some (.int .i64 y.2.1)/\cell m ⟨b,o+(i+1)*3+2,none⟩=some (.int .i64 y.2.2):=λm em=>by
      obtain⟨b',o',ha',_,h⟩:=hcy m em;rw[ha]at ha';cases ha';exact h
     have ixx:∀{K:Addr->Prop},K ⟨b,o+i*3,none⟩->Ix all2.a all2.len (i:Int) 3 K:=λhK=>by
      rw[ha];exact ix (by omega) (by omega) (by rw[add_lit,iTn];exact hK)
     have ixy:∀{K:Addr->Prop},K ⟨b,o+(i+1)*3,none⟩->Ix all2.a all2.len ((i+1:Nat):Int) 3 K:=λhK=>by
      rw[ha];exact ix (by omega) (by omega) (by rw[add_lit,iTn];exact hK)
     refine ixx ⟨x.2.1,λm em=>by rw[add_lit];exact(rx m em).2.1,arN (m:=i+1) (by omega) (by omega) (ixy ⟨y.2.1,λm em=>by rw[add_lit];exact(ry m em).2.1,?_⟩)⟩;refine iff_ (λhp=>hJ3 _ _ ⟨Ext.refl _ _,by rw[hkp,hp];rfl⟩) λhp=>?_;refine ixx ⟨x.1,λm em=>by rw[add_lit];exact(rx m em).1,⟨x.2.1,λm em=>by rw[add_lit];exact(rx m em).2.1,⟨x.2.2,λm em=>by rw[add_lit];exact(rx m em).2.2,?_⟩⟩⟩;refine arN (m:=i+1) (by omega) (by omega) (ixy ⟨y.1,λm em=>by rw[add_lit];exact(ry m em).1,⟨y.2.1,λm em=>by rw[add_lit];exact(ry m em).2.1,⟨y.2.2,λm em=>by rw[add_lit];exact(ry m em).2.2,?_⟩⟩⟩);refine WcS x hxo.1 hxo.2.1 hxo.2.2.1 hxo.2.2.2 λv13 e13=>⟨e13,WcS y hyo.1 hyo.2.1 hyo.2.2.1 hyo.2.2.2 λv14 e14=>⟨e13.trans e14,hJ3 _ _ ⟨e13.trans e14,by rw[hkp,hp];rfl⟩⟩⟩
  ·have hil:i=l.length:=by omega
   subst hil;refine hR out u (e08.trans eu8) ?_;rw[hmk];exact Wdg hout
theorem Up:∀w:Nat,2<=w->w<=16->Zm (UT (w:Int))=true:=by
 have h:((List.range 17).all λw=>decide (w<2)||Zm (UT (w:Int)))=true:=by decide +kernel
 intro w h1 h2;have:=zw.1 h w (zW.2 (by omega));simp only[zBH,zN]at this;exact this.resolve_left (by omega)
end Go.Ar
namespace Go.Proofs
open Go.Shelf
def Tryz.sortFL_ren:Go.Shelf.Ren:=⟨fun|6=>261|15=>129|14=>284|28=>167|29=>168|20=>303|21=>304|22=>305|23=>306|24=>307|25=>308|26=>309|27=>310|46=>316|47=>206|48=>207|49=>317|50=>318|57=>320|n=>n,fun|22=>124|24=>130|25=>346|3=>3|39=>199|0=>0|53=>255|55=>257|4=>4|46=>248|45=>247|50=>252|5=>5|9=>9|66=>299|70=>105|76=>335|77=>336|n=>n,fun|n=>n⟩
theorem Tryz.sortFL:Go.Proofs.SlLaysF0.n6 Tryz.prog Tryz.sortFL_ren:={
 mixed:=by kernel_rfl
 f6:=⟨Tryz.f261.name,by decide,Tryz.func261.trans (congrArg some (by kernel_rfl))⟩
 f14:=⟨Tryz.f284.name,by decide,Tryz.func284.trans (congrArg some (by kernel_rfl))⟩
 f15:=Tryz.func129.trans (congrArg some (by kernel_rfl))
 f20:=⟨Tryz.f303.name,by decide,Tryz.func303.trans (congrArg some (by kernel_rfl))⟩
 f21:=⟨Tryz.f304.name,by decide,Tryz.func304.trans (congrArg some (by kernel_rfl))⟩
 f22:=⟨Tryz.f305.name,by decide,Tryz.func305.trans (congrArg some (by kernel_rfl))⟩
 f23:=⟨Tryz.f306.name,by decide,Tryz.func306.trans (congrArg some (by kernel_rfl))⟩
 f24:=⟨Tryz.f307.name,by decide,Tryz.func307.trans (congrArg some (by kernel_rfl))⟩
 f25:=⟨Tryz.f308.name,by decide,Tryz.func308.trans (congrArg some (by kernel_rfl))⟩
 f26:=⟨Tryz.f309.name,by decide,Tryz.func309.trans (congrArg some (by kernel_rfl))⟩
 f27:=⟨Tryz.f310.name,by decide,Tryz.func310.trans (congrArg some (by kernel_rfl))⟩
 f28:=Tryz.func167.trans (congrArg some (by kernel_rfl))
 f29:=Tryz.func168.trans (congrArg some (by kernel_rfl))
 f46:=⟨Tryz.f316.name,by decide,Tryz.func316.trans (congrArg some (by kernel_rfl))⟩
 f47:=Tryz.func206.trans (congrArg some (by kernel_rfl))
 f48:=Tryz.func207.trans (congrArg some (by kernel_rfl))
 f49:=⟨Tryz.f317.name,by decide,Tryz.func317.trans (congrArg some (by kernel_rfl))⟩
 f50:=⟨Tryz.f318.name,by decide,Tryz.func318.trans (congrArg some (by kernel_rfl))⟩
 f57:=⟨Tryz.f320.name,by decide,Tryz.func320.trans (congrArg some (by kernel_rfl))⟩
 t0:=Tryz.underlying0
 a0:=Tryz.isAgg0
 z0:=Tryz.sizeOf0
 v0:=Tryz.zeroValue0
 t3:=Tryz.underlying3
 a3:=Tryz.isAgg3
 z3:=Tryz.sizeOf3
 v3:=Tryz.zeroValue3
 t4:=Tryz.underlying4
 a4:=Tryz.isAgg4
 z4:=Tryz.sizeOf4
 v4:=Tryz.zeroValue4
 t5:=Tryz.underlying5
 a5:=Tryz.isAgg5
 z5:=Tryz.sizeOf5
 v5:=Tryz.zeroValue5
 t9:=Tryz.underlying9
 a9:=Tryz.isAgg9
 z9:=Tryz.sizeOf9
 v9:=Tryz.zeroValue9
 t22:=Tryz.underlying124
 a22:=Tryz.isAgg124
 z22:=Tryz.sizeOf124
 v22:=Tryz.zeroValue124
 t25:=Tryz.underlying346
 a25:=Tryz.isAgg346
 z25:=Tryz.sizeOf346
 v25:=Tryz.zeroValue346
 t39:=Tryz.underlying199
 a39:=Tryz.isAgg199
 z39:=Tryz.sizeOf199
 v39:=Tryz.zeroValue199
 t45:=Tryz.underlying247
 a45:=Tryz.isAgg247
 z45:=Tryz.sizeOf247
 v45:=Tryz.zeroValue247
 t46:=Tryz.underlying248
 a46:=Tryz.isAgg248
 z46:=Tryz.sizeOf248
 v46:=Tryz.zeroValue248
 t50:=Tryz.underlying252
 a50:=Tryz.isAgg252
 z50:=Tryz.sizeOf252
 v50:=Tryz.zeroValue252
 t53:=Tryz.underlying255
 a53:=Tryz.isAgg255
 z53:=Tryz.sizeOf255
 v53:=Tryz.zeroValue255
 t55:=Tryz.underlying257
 a55:=Tryz.isAgg257
 z55:=Tryz.sizeOf257
 v55:=Tryz.zeroValue257
 t66:=Tryz.underlying299
 a66:=Tryz.isAgg299
 z66:=Tryz.sizeOf299
 v66:=Tryz.zeroValue299
 t70:=Tryz.underlying105
 a70:=Tryz.isAgg105
 z70:=Tryz.sizeOf105
 v70:=Tryz.zeroValue105
 t76:=Tryz.underlying335
 a76:=Tryz.isAgg335
 z76:=Tryz.sizeOf335
 v76:=Tryz.zeroValue335
 t77:=Tryz.underlying336
 a77:=Tryz.isAgg336
 z77:=Tryz.sizeOf336
 v77:=Tryz.zeroValue336}
end Go.Proofs
namespace Go.Ar
open Go Go.Vc Go.Proofs Go.RowKit Go.Sort Go.Shelf Go.Lib
abbrev BtK:=Fin 64×Sl
instance:Inhabited BtK:=⟨(0,⟨none,0,0⟩)⟩
def encB (x:BtK):List Value:=[.int .i64 (x.1.val:Int),.slice x.2.a x.2.len x.2.cap]
def cfB (x y:BtK):Int:=(x.1.val:Int)-(y.1.val:Int)
theorem cmpB (x y:BtK)(W:World):Calls Tryz.prog 262 #[.agg #[.int .i64 (x.1.val:Int),.slice x.2.a x.2.len x.2.cap],.agg #[.int .i64 (y.1.val:Int),.slice y.2.a y.2.len y.2.cap]] W λe w'=>e=.returned (.int .i64 (cfB x y))/\∃q os',w'=grow (W.drewN q) os':=by
 have hw:IntKind.i64.wrap ((x.1.val:Int)-(y.1.val:Int))=cfB x y:=by
  have h1:=x.1.isLt;have h2:=y.1.isLt;unfold cfB;exact Vu (by omega) (by omega)
 go_enter Tryz.func262,Tryz.ntmps262
 go_wp2
 go_ret
 exact⟨rfl,0,_,by rw[alloc_eq_grow,alloc_eq_grow,grow_grow];rfl⟩
theorem swoB:SWO (ltOf cfB) where
 irrefl x:=by simp[ltOf,cfB]
 trans x y z h1 h2:=by
  have h1:=zAS h1;have h2:=zAS h2;unfold cfB at h1 h2;exact zQ (by unfold cfB;omega)
 ntrans x y z h1 h2:=by
  have h1:=zAW h1;have h2:=zAW h2;unfold cfB at h1 h2;exact zT (by unfold cfB;omega)
def unK (x:BtK):Nat×Sl:=(x.1.val,x.2)
theorem flB (l:List BtK)(j:Nat)(hj:j<l.length*2):(btsV (l.map unK))[j]?=some (flatK encB 2 l.toArray)[j]! := by
 rw[get_flatK _ _ _ _ (by simpa using hj)];have hi:j/2<l.length:=by omega
 have e1:l.toArray[j/2]! = l[j/2]:=by rw[getElem!_pos _ _ (by simpa using hi)];simp
 have hg:(l.map unK)[j/2]?=some (unK l[j/2]):=by simp[hi]
 have:=Whu hg (d:=j%2) (by omega);rw[show 2*(j/2)+j%2=j by omega]at this;rw[this,e1];have hd:j%2=0\/j%2=1:=by omega
 rcases hd with h|h<;>rw[h]<;>rfl
theorem WlC:Gi:=by
 intro σ F s xs hrow hk hlen R hR;rintro w rfl;have hsl:s.len=xs.length:=by have:=hrow.1;rw[QF]at this;omega
 rcases hrow.2 with⟨h0,hc0⟩|⟨b,cs,hF,ha,hb,hle,hcl,ht⟩
 ·have hxs:xs=[]:=List.length_eq_zero_iff.1 (by omega);have:=AnyF.slices_SortFunc_none Tryz.sortFL s.a s.cap (.func (.func 262) #[] #[]) w;show Calls _ _ #[.slice s.a s.len s.cap,.func (.func 262) #[] #[]] w _;rw[h0];refine this.mono ?_;rintro e w' ⟨rfl,rfl⟩;subst hxs;exact⟨.refl _,[],rfl,hR [] _ (.refl _) List.Pairwise.nil (Ext.refl _ _) hrow⟩
 ·have hlt:∀x∈xs,x.1<64:=hk
  let toK:Nat×Sl->BtK:=λx=>(Fin.ofNat 64 x.1,x.2)
  have hun:(xs.map toK).map unK=xs:=by
   rw[zAJ]
   conv=>rhs;rw[←zDX xs]
   apply zy;intro x hx;simp only[Function.comp,toK,unK,Fin.ofNat,id];rw[zDD (hlt x hx)]
  have hdl:(xs.map toK).length=xs.length:=by simp
  generalize xs.map toK=l at hun hdl;have hbl:=hb.lt;have hH:HoldsK encB 2 w b 0 l.toArray:=by
   intro j hj;simp only[size_flatK,zFK]at hj;have hc:Vc.cell w.heap ⟨b,0+j,none⟩=some (flatK encB 2 l.toArray)[j]! := by
    rw[hb.cell,zG,←flB l j hj,hun];rw[←ht,zg,zB (by rw[QF];omega)]
   exact⟨hc,hb.frz⟩
  have eg:∀args w,(callFunc 262 args).run Tryz.prog w=.ok (.enter 262 args) w:=enters_of Tryz.func262 (by kernel_rfl) rfl;have hagg:∀w,(isAgg (Tryz.sortFL_ren.t 24)).run Tryz.prog w=.ok true w:=λw=>by
   have h:=QQ (P:=Tryz.prog) (t:=Tryz.sortFL_ren.t 24) (d:=(Tryz.prog.underlying (Tryz.sortFL_ren.t 24)).getD .bool) (by kernel_rfl) w
   rwa [show Vn ((Tryz.prog.underlying (Tryz.sortFL_ren.t 24)).getD .bool)=true by kernel_rfl]at h
  have hsz:∀w,(Go.sizeOf (Tryz.sortFL_ren.t 24)).run Tryz.prog w=.ok 2 w:=λw=>by
   have h:=Z5 (P:=Tryz.prog) (t:=Tryz.sortFL_ren.t 24) (by kernel_rfl) w
   rwa [show Tryz.prog.cellsOf (Tryz.sortFL_ren.t 24)=2 by kernel_rfl]at h
  have hcon:=AnyQ.slices_SortFunc Tryz.sortFL 2 hagg hsz encB (λ_=>rfl) (λx v hv=>by simp only[encB,zX,List.not_mem_nil,or_false]at hv;rcases hv with rfl|rfl<;>rfl) cfB swoB 262 #[] b 0 s.cap l.toArray w eg (λ_ _ _ _ x y=>cmpB x y _) hH hbl (by simp only[zFK];omega)
  show Calls _ _ #[.slice s.a s.len s.cap,.func (.func 262) #[] #[]] w _;rw[ha,show s.len=l.toArray.size by simp only[zFK];omega];refine hcon.mono ?_;rintro e w' ⟨rfl,d',n,os,hp,hso,rfl⟩;have hds:d'.size=l.length:=by simpa using hp.1
  have hperm:d'.toList.Perm l:=by
   have h3:=hp.2.2;rw[show l.toArray.size=d'.size by simp[hds]]at h3;have e1:(d'.extract 0 d'.size)=d':=by simp
   have e2:(l.toArray.extract 0 d'.size)=l.toArray:=by rw[hds];simp
   rw[e1,e2]at h3;simpa using h3
  obtain⟨ty,hob⟩:=hb;have hheap:(sortWorldK encB 2 w b 0 n d' os).heap=(w.heap.modify b (onCells (putCells id 0 (flatK encB 2 d'))))++os:=rfl;have hsm:(w.heap.modify b (onCells (putCells id 0 (flatK encB 2 d')))).size=w.heap.size:=by simp
  refine⟨⟨rfl,rfl,rfl,by rw[hheap,Array.size_append,hsm];omega⟩,[],rfl,?_⟩;rw[hheap];have hext:Ext F w.heap ((w.heap.modify b (onCells (putCells id 0 (flatK encB 2 d'))))++os):=by
   refine⟨by rw[Array.size_append,hsm];omega,λq hq hf=>?_⟩;rw[zFV (by rw[hsm];exact hq),zEY,zA λ(e:b=q)=>hf (by rw[←e];exact hF)]
  refine hR (d'.toList.map unK) _ ?_ ?_ hext ⟨?_,.inr ⟨b,(putCells id 0 (flatK encB 2 d') cs.toArray).toList,hF,ha,⟨ty,?_⟩,hle,?_,?_⟩⟩
  ·rw[←hun];exact hperm.map _
  ·rw[zCB];rw[zAF];intro i j hi hj hij;have h1:=hso i j (by omega) hij (by simp only[zEB]at hj;simp only[zFK];omega);rw[getElem!_pos d' i (by simpa using hi),getElem!_pos d' j (by simpa using hj)]at h1;have h1:=zAW h1;unfold cfB at h1;simp only[unK,Array.getElem_toList];omega
  ·rw[QF,zh,zEB,hds];omega
  ·rw[zFV (by rw[hsm];exact hbl),zEY,zB rfl,hob];simp[onCells]
  ·simp[putCells,hcl]
  ·rw[QF,zh,zEB,hds];apply zn;intro j;rw[zg];by_cases hj:j<l.length*2
   ·rw[zB hj,flB d'.toList j (by simpa[hds]using hj)];have hjc:j<cs.length:=by
     have:l.length*2<=s.cap*2:=zAG _ (by omega);omega
    simp only[putCells,zEO,Array.getElem?_mapIdx,List.getElem?_toArray,gGe hjc,zb];rw[zB ⟨by omega,by rw[size_flatK,hds];omega⟩];simp
   ·rw[zA hj,zV (by rw[QF,zh,zEB,hds];omega)]
end Go.Ar
namespace Go.Proofs
open Go.Vc
set_option maxRecDepth 100000
def Xl.h:Hn:=.q .o1 (.q .o4 .l)
def Xl.v (a:Hp)(b:Option Addr->Hp->Prop):Prop:=WW.c 8 64 1 1 1024 2 a λc d=>b c d
theorem Xl.o {a b}(c:Xl.v a b):Xl.c a b:=Wa Tryz.func29 (x:=Xl.h) (R0 c)
def WW.h:Hn:=.q .o2 (.q .o8 (.q .o9 (.q (.q .o2 (.c (.q .o1 .l) .l)) (.q .o2 .l))))
def WW.v (a b c d e f:Int)(g:Hp)(h:Option Addr->Hp->Prop):Prop:=Nw (.cells #[.I a,.I b,.I c,.I d,.I e,.I f] 65 (0,0)) g λi j=>LdI .i64 (i.add 0) j λk=>WE.c k j λl m n=>LdI .i64 ((i.add 1).add 0) n λo=>LdI .i64 ((i.add 1).add 1) n λp=>LdI .i64 ((i.add 1).add 2) n λq=>LdI .i64 ((i.add 1).add 3) n λr=>LdI .i64 ((i.add 1).add 4) n λs=>QB.c l o p q r s n λt u v=>If (u != 0) (h none v) (h t v)
theorem WW.o {a b c d e f g h}(i:WW.v a b c d e f g h):WW.c a b c d e f g h:=Wa Tryz.func63 (x:=WW.h) (R0 i)
end Go.Proofs