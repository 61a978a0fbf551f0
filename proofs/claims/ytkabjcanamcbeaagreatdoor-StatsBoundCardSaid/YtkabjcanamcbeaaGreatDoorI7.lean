/- Texts joined. -/
import Derived.Shelf.SlIterI.Nil
import Derived.Ground.GgzProg
import Derived.Test.YtkabjcanamcbeaaGreatDoorProg
import Derived.Test.YtkabjcanamcbeaaGreatDoorRows
import Derived.ChangeVars
import Derived.JoinedOf
import Derived.RowKit
import Derived.WalkKit
import Derived.ProofKit
import Derived.OpenShut
import Derived.ChangeOld
import Derived.Carry
import Derived.Test.YtkabjcanamcbeaaGreatDoorI6
set_option linter.unusedVariables false
set_option linter.unusedSimpArgs false
namespace Go.Ar
open Go Go.Vc Go.Proofs
variable {σ w w':Hp}{F P Q:Rg}{L:LayH}{H H':Hw}{held:List Pc}{s0:Sp}{t n:Nat}{g:Th}
structure Deed where
 kd:Int
 th:Int
 a:Int
 b:Int
 of:Int
 pl:Int
 va:Int
 s:ByteArray
def Wk6 (d:Deed):List Value:=[.int .i64 d.kd,.int .i64 d.th,.int .i64 d.a,.int .i64 d.b,.int .i64 d.of,.int .i64 d.pl,.int .i64 d.va,.string d.s]
def I64 (x:Int):Prop:=-9223372036854775808<=x/\x<=9223372036854775807
structure DeedI (d:Deed):Prop where
 a:I64 d.a
 b:I64 d.b
 pl:I64 d.pl
 va:I64 d.va
structure Deeds (σ:Hp) (sl:Sl) (ds:List Deed):Prop where
 len:sl.len=ds.length
 at_:∀(i:Nat) (d:Deed),ds[i]?=some d->∃b o,sl.a=some ⟨b,o,none⟩/\b<σ.size/\∀(j:Nat) v,(Wk6 d)[j]?=some v->cell σ ⟨b,o+i*8+j,none⟩=some v
 i:∀d∈ds,DeedI d
 big:ds.length<=9223372036854775807
theorem Deeds.keep0 {sl:Sl}{ds:List Deed}(h:Deeds σ sl ds)(e:Ext0 σ w):Deeds w sl ds:=⟨h.len,λi d hx=>by
 obtain⟨b,o,ha,hb,hc⟩:=h.at_ i d hx;exact⟨b,o,ha,by have:=e.1;omega,λj v hv=>by rw[ZD e hb id];exact hc j v hv⟩,h.i,h.big⟩
theorem Deeds.rd {sl:Sl}{ds:List Deed}(h:Deeds σ sl ds)(e:Ext0 σ w){i:Nat}{d:Deed}(hx:ds[i]?=some d){K:Addr->Prop}(hK:∀b o,(∀w',Ext0 σ w'->∀(j:Nat) v,(Wk6 d)[j]?=some v->cell w' ⟨b,o+j,none⟩=some v)->K ⟨b,o,none⟩):Ix sl.a sl.len (i:Int) 8 K:=by
 obtain⟨b,o,ha,hb,hc⟩:=h.at_ i d hx;have hl:=(gSi.1 hx).1;have hlen:=h.len;rw[ha];refine ix (by omega) (by omega) ?_;rw[add_lit,iTn];exact hK b _ λw' e' j v hv=>by rw[ZD e' hb id];exact hc j v hv
theorem Wjb {xs:List (Int×Int×Int)}(h:Zm xs=true):(xs.map YC).map clsT=xs:=by
 rw[zAJ]
 conv=>rhs;rw[←zDX xs]
 apply zy;intro t ht;obtain⟨i,hi⟩:=zL ht;have:=((Zi xs).1 h).2.2.1 i t hi;obtain⟨c,_,h1,h2,h3,h4⟩:=Hc this;simp only[Function.comp,id];rw[show YC t=c from h1];unfold clsT;rw[←h2,←h3,←h4]
theorem Wlc {xs:List (Int×Int×Int)}(h:Zm xs=true):(xs.map YC).length<=40/\∀c∈xs.map YC,c.ok:=by
 refine⟨by have:=((Zi xs).1 h).2.1;simpa using this,λc hc=>?_⟩;obtain⟨t,ht,rfl⟩:=zC.1 hc;obtain⟨i,hi⟩:=zL ht;have:=((Zi xs).1 h).2.2.1 i t hi;obtain⟨c,hok,h1,_⟩:=Hc this;rw[show YC t=c from h1];exact hok
structure NewH (H:Hw) (pages:Int):Prop where
 hi:HI H [] (Kw H.cf.pages)
 cf:CfOk H
 pg:(H.cf.pages:Int)=pages
 live:H.live=[]
 ph:∀g∈H.ths,g.ph=none
theorem Wi8 {xs:List (Int×Int×Int)}{p a t b r:Int}(h:Zm xs=true)(hc:WbV p a t b r=true):NewH (KY (xs.map YC) ⟨p.toNat,a.toNat,t.toNat,b.toNat,r.toNat⟩) p:=by
 obtain⟨⟨q1,q2,q3⟩,⟨q4,q5⟩,⟨q6,q7⟩,_⟩:=(WbZ p a t b r).1 hc;obtain⟨l40,hok⟩:=Wlc h;refine⟨WkN (cf:=⟨p.toNat,a.toNat,t.toNat,b.toNat,r.toNat⟩) (by simp only;omega) (by simp only;omega) (by simp only;omega) (by simp only;omega) l40 hok,⟨by simp only[KY];omega,by simp[KY],?_⟩,by simp only[KY];omega,rfl,λg hg=>by rw[zGG hg]⟩;show Zm ((xs.map YC).map clsT)=true;rw[Wjb h];exact h
def Safe (H:Hw)(d:Deed)(x:Int)(e:Int×Bk):Prop:=(∀j,phAt H j≠some (.find e.1))/\¬((d.kd=3\/d.kd=1\/d.kd=6)/\e.1<=x/\x<e.1+e.2.2.1)
structure DoE (H:Hw) (d:Deed) (x:Int) (H':Hw):Prop where
 hi:∃held s0,HI H' held s0
 kp:ZW H' H
 fx:∀e∈H.live,Safe H d x e->e∈H'.live/\(∀w:Nat,e.1<=((8*w:Nat):Int)->((8*w:Nat):Int)<e.1+e.2.2.1->H'.sp.wd w=H.sp.wd w)/\∀j,phAt H' j≠some (.find e.1)
theorem DoE.same (h:HI H held s0)(d:Deed)(x:Int):DoE H d x H:=⟨⟨_,_,h⟩,ZW.refl _,λe he hs=>⟨he,λ_ _ _=>rfl,hs.1⟩⟩
theorem DoE.op (h:HI H held s0){d:Deed}{x:Int}(o:OpOk H H')(hl:∀e∈H.live,Safe H d x e->e∈H'.live):DoE H d x H':=
 ⟨o.hi,o.kp,λe he hs=>⟨hl e he hs,h.kl o.ks e he,λj=>by rw[o.ph];exact hs.1 j⟩⟩
theorem DoE.ar {d:Deed}{x:Int}(o:ArOk H H'):DoE H d x H':=
 ⟨o.hi,o.kp,λe he hs=>⟨by rw[o.live];exact he,o.kl e he,λj=>by unfold phAt;rw[o.ths];exact hs.1 j⟩⟩
theorem HI.size8 (h:HI H held s0){e:Int×Bk}(he:e∈H.live):8<=e.2.2.1/\0<=e.1/\e.1%8=0/\e.2.2.1%8=0/\e.1+e.2.2.1<=270000:=by
 obtain⟨_,p,hp,h1,h2,h3,h4,_⟩:=h.lv e he;have s8:=h.wi'.size_pos hp;have al:=h.wi'.addr_lt hp;obtain⟨A,hA,hd⟩:=h.wi'.hf p hp;have a8:p.addr%8=0:=by
  rcases hd with⟨_,_,r,hr,c2,c3⟩|⟨j,c,c1,c2,c3,c4,_⟩
  ·omega
  ·obtain⟨c',ss,hcl,ht⟩:=c4;have:c'=c:=Option.some.inj (hcl.1.symm.trans c2);subst this;have hC:=(h.wi'.ga _ A hA).cen j c' ss hcl;obtain⟨l,s,i,hs,hi,e,_⟩:=(KW hC).1 ht;have hok:=hC.ok;unfold Cls.ok at hok;unfold at_ at e;have h8:c'.size=8*(c'.size/8):=by omega
   have:i*c'.size=8*(i*(c'.size/8)):=by rw[Nat.mul_left_comm,←h8]
   omega
 omega
theorem DoE.free (h:HI H held s0){d:Deed}{x thread e:Int}(hd:d.kd=1)(o:OpOk H H')(hf:FreE H thread x H' e):DoE H d x H':=by
 refine DoE.op h o λe' he hs=>?_;have h8:=h.size8 he;rcases hf with⟨_,h2,_⟩|⟨_,_,_,h4⟩|⟨_,b,_,_,h4⟩
 ·rw[h2];exact he
 ·rw[h4];exact he
 ·rw[h4];refine U0.2 ⟨he,λhx=>hs.2 ⟨.inr (.inl hd),by omega,by omega⟩⟩
theorem DoE.step (h:HI H held s0){d:Deed}{x:Int}(hg:H.ths[t]?=some g){p:Ph}(hp:g.ph=some p):DoE H d x (ZX H t p):=by
 have ht:=(gSi.1 hg).1;have s:=h.stp hg hp;have pht:phAt H t=some p:=by unfold phAt;rw[hg];exact hp
 have live:∀e∈H.live,p≠.find e.1->e∈(ZX H t p).live:=λe he hne=>by
  by_cases hf:isF p
  ·obtain⟨_,_,_,el,efi⟩:=st_F h hg hp hf;by_cases hx:∃y,p=.find y
   ·obtain⟨y,rfl⟩:=hx;cases hm:mget H.live y with
    | none=>rw[((efi y rfl).1 hm).2.2];exact he
    | some b=>
     rw[((efi y rfl).2 b hm).2];exact U0.2 ⟨he,λhy=>hne (by rw[hy])⟩
   ·rw[(el λy hy=>hx ⟨y,hy⟩).2];exact he
  ·obtain⟨cl,sz,hr⟩:=WjQ h hg hp hf;obtain⟨_,ef⟩:=st_M h hg hp hr;rcases ef with⟨_,_,_,e2,_⟩|⟨_,_,_,e4⟩|⟨_,_,e3,e4⟩
   ·rw[e2];exact he
   ·rw[e4];exact he
   ·rw[e4];exact(U9 e3).2 (.inl he)
 have nof:∀y,(Wp H t p).2.1≠some (.find y):=λy hy=>by
  by_cases hf:isF p
  ·obtain⟨_,_,ef,_⟩:=st_F h hg hp hf;rcases ef with⟨p',g',e1,_,e3,_⟩|e1
   ·rw[e1]at hy;exact e3 y (Option.some.inj hy)
   ·rw[e1]at hy;cases hy
  ·obtain⟨cl,sz,hr⟩:=WjQ h hg hp hf;obtain⟨_,ef⟩:=st_M h hg hp hr;rcases ef with⟨p',g',e1,_,_,e4,_⟩|⟨e1,_⟩|⟨e1,_⟩
   ·rw[e1]at hy;cases hy;exact e4.elim
   ·rw[e1]at hy;cases hy
   ·rw[e1]at hy;cases hy
 refine⟨s.hi,Vz H t p,λe he hs=>⟨live e he λhx=>hs.1 t (by rw[pht,hx]),h.kl s.ks e he,λj=>?_⟩⟩;by_cases hj:j=t
 ·subst hj;obtain⟨g',hg',hp'⟩:=WaI (p:=p) ht;unfold phAt;rw[hg'];show g'.ph≠_;rw[hp'];exact nof _
 ·unfold phAt;rw[Ho p hj];exact hs.1 j
end Go.Ar
namespace Go.Ar
open Go Go.Vc Go.Proofs
variable {σ w w':Hp}{F P Q X:Rg}{L:LayH}{H H':Hw}{held:List Pc}{s0:Sp}{t n:Nat}{g:Th}
structure PlayOk (σ0 σ:Hp) (L:LayH) (H:Hw) (held:List Pc) (s0:Sp) (P Q:Rg) (addrs:Sl) (ad:List Int):Prop where
 e:Ext0 σ0 σ
 h:HH σ P L H
 hi:HI H held s0
 cf:CfOk H
 pg:H.cf.pages<=128
 pP:∀b,P b->σ0.size<=b/\b<σ.size
 pQ:∀b,Q b->σ0.size<=b/\b<σ.size/\¬P b
 row:RowR addrs 1 (Wt ad) σ Q
 al:ad.length<=60
 g0:Off (λb=>σ0.size<=b)/\¬σ0.size<=1
variable {σ0:Hp}{addrs:Sl}{ad:List Int}
theorem PlayOk.step (p:PlayOk σ0 σ L H held s0 P Q addrs ad){ts':List LayT}(e:Ext P σ w)(h':HH w (Grow P σ) {L with ts:=ts'} H'){held':List Pc}{s0':Sp}(hi':HI H' held' s0')(k:ZW H' H) :
 PlayOk σ0 w {L with ts:=ts'} H' held' s0' (Cut (Grow P σ) w) Q addrs ad:=by
 have hz:=e.1;refine⟨Ext.newT p.e e λb hb=>.inr (p.pP b hb).1,h'.cut,hi',p.cf.keep k,by rw[k.2.1];exact p.pg,λb hb=>⟨?_,hb.2⟩,λb hb=>?_,(RowR.loc _ _ _).keep p.row e λb _ hq hp=>(p.pQ b hq).2.2 hp,p.al,p.g0⟩
 ·have:=p.e.1;rcases hb.1 with h1|h1
  ·exact(p.pP b h1).1
  ·omega
 ·obtain⟨q1,q2,q3⟩:=p.pQ b hb;exact⟨q1,by omega,λhx=>by
   rcases hx.1 with h1|h1
   ·exact q3 h1
   ·omega⟩
theorem PlayOk.fr (p:PlayOk σ0 σ L H held s0 P Q addrs ad)(e:Ext0 σ w):PlayOk σ0 w L H held s0 P Q addrs ad:=
 ⟨p.e.trans e,p.h.keep0 e,p.hi,p.cf,p.pg,λb hb=>⟨(p.pP b hb).1,by have:=(p.pP b hb).2;have:=e.1;omega⟩,λb hb=>⟨(p.pQ b hb).1,by have:=(p.pQ b hb).2.1;have:=e.1;omega,(p.pQ b hb).2.2⟩,(RowR.loc _ _ _).keep0 p.row e,p.al,p.g0⟩
theorem PlayOk.out (p:PlayOk σ0 σ L H held s0 P Q addrs ad){T:Rg}(e:Ext T σ w)(hT:∀b,b<σ.size->T b->¬P b/\¬Q b/\σ0.size<=b):PlayOk σ0 w L H held s0 P Q addrs ad:=by
 have hz:=e.1;have e':Ext (λb=>T b/\b<σ.size) σ w:=⟨e.1,λb hb hf=>e.2 b hb λht=>hf ⟨ht,hb⟩⟩;refine⟨Ext.newT p.e e' λb hb=>.inr (hT b hb.2 hb.1).2.2,p.h.keep e' (λb hb hp ht=>(hT b hb ht.1).1 hp) (λb hb=>?_) (λhb=>?_),p.hi,p.cf,p.pg,λb hb=>⟨(p.pP b hb).1,by have:=(p.pP b hb).2;omega⟩,λb hb=>⟨(p.pQ b hb).1,by have:=(p.pQ b hb).2.1;omega,(p.pQ b hb).2.2⟩,(RowR.loc _ _ _).keep p.row e' λb hb hq ht=>(hT b hb ht.1).2.1 hq,p.al,p.g0⟩
 ·exact p.g0.1 b (hT b hb.2 hb.1).2.2
 ·exact p.g0.2 (hT _ hb.2 hb.1).2.2
end Go.Ar
namespace Go.Proofs
open Go.Shelf
def Tryz.keysBL_ren:Go.Shelf.Ren:=⟨fun|7=>67|10=>95|n=>n,fun|23=>44|26=>3|3=>76|28=>117|0=>0|27=>116|33=>152|4=>4|n=>n,fun|n=>n⟩
theorem Tryz.keysBL:Go.Proofs.SlLaysZI.n7 Tryz.prog Tryz.keysBL_ren:={
 mixed:=by kernel_rfl
 f7:=⟨Tryz.f67.name,by decide,Tryz.func67.trans (congrArg some (by kernel_rfl))⟩
 f10:=⟨Tryz.f95.name,by decide,Tryz.func95.trans (congrArg some (by kernel_rfl))⟩
 t0:=Tryz.underlying0
 a0:=Tryz.isAgg0
 z0:=Tryz.sizeOf0
 v0:=Tryz.zeroValue0
 t4:=Tryz.underlying4
 a4:=Tryz.isAgg4
 z4:=Tryz.sizeOf4
 v4:=Tryz.zeroValue4
 t23:=Tryz.underlying44
 a23:=Tryz.isAgg44
 z23:=Tryz.sizeOf44
 v23:=Tryz.zeroValue44
 t26:=Tryz.underlying3
 a26:=Tryz.isAgg3
 z26:=Tryz.sizeOf3
 v26:=Tryz.zeroValue3
 t27:=Tryz.underlying116
 a27:=Tryz.isAgg116
 z27:=Tryz.sizeOf116
 v27:=Tryz.zeroValue116
 t28:=Tryz.underlying117
 a28:=Tryz.isAgg117
 z28:=Tryz.sizeOf117
 v28:=Tryz.zeroValue117
 t33:=Tryz.underlying152
 a33:=Tryz.isAgg152
 z33:=Tryz.sizeOf152
 v33:=Tryz.zeroValue152}
end Go.Proofs
namespace Go.Ar
open Go Go.Vc Go.Proofs Go.RowKit Go.Maps Go.Sort Go.Shelf
open Go.Vc (mget mset mdel)
open Go.Bu (SlF Wa0 Uy Wa4 VN Wlq)
variable {σ w w':Hp}{F P Q X S:Rg}{L:LayH}{H H':Hw}{held:List Pc}{s0 sp:Sp}{t n:Nat}{g:Th}{σ0:Hp}
def Uu:Nat:=Tryz.keysBL_ren.f 10
def Wb9:Nat:=Tryz.keysBL_ren.t 23
theorem Wip (m:Option Nat){R:Fv->Hp->Prop}(hR:R ⟨Uu,#[],#[.pointer (some ⟨σ.size,0,none⟩)]⟩ (σ.push (.cells #[.map m] Wb9 (0,0)))) :
 Za.c m σ R:=by
 rintro w rfl;refine(callsIn_wide.1 (AnyZI.keys_in Tryz.keysBL Fence.wide 5 trivial rfl m w)).mono ?_;rintro e w' ⟨rfl,rfl⟩;exact⟨⟨rfl,rfl,rfl,zCF (by show _<(w.heap.push _).size;simp)⟩,[.func (.func Uu) #[] #[.pointer (some ⟨w.heap.size,0,none⟩)]],rfl,⟨Uu,#[],#[.pointer (some ⟨w.heap.size,0,none⟩)]⟩,rfl,hR⟩
theorem WeN {w:World}{c m:Nat}{B:List (Int×Bk)}(hc:cell w.heap ⟨c,0,none⟩=some (.map (some m)))(hm:MapL w.heap m .i64 (.ag 4) B)(hb:∀x∈B,Go.Bu.I64 x.1)(hs:B.length<=1000000)(n:Nat)(hn:1<=n) :
 SeqGives Fence.wide n Tryz.prog Uu #[.pointer (some ⟨c,0,none⟩)] encZ (λss=>ss.Perm (B.map (·.1))) B.length w:=by
 obtain⟨D,hD,hp,hsz⟩:=VN (P:=Tryz.prog) Tryz.keysBL.t26 hm hb hs;have hcl:c<w.heap.size:=by
  unfold cell at hc;split at hc
  ·rename_i h;exact(zAK.1 h).1
  ·cases hc
 have:=AnyZI.keys_gives (ρ:=Tryz.keysBL_ren) {Tryz.keysBL with} Fence.wide n trivial rfl hn c m B.length D w hcl hc hD;intro l J W hW hJ hY h0;rw[hsz]at this;refine(this l J W hW hJ hY h0).mono ?_;rintro e W' ⟨he,ss,h1,h2⟩;exact⟨he,ss,h1.trans hp,h2⟩
theorem Weg {c m:Nat}{B:List (Int×Bk)}(hc:cell σ ⟨c,0,none⟩=some (.map (some m)))(hm:MapL σ m .i64 (.ag 4) B)(hb:∀x∈B,Go.Bu.I64 x.1)(hs:B.length<=1000000){R:Sl->Hp->Prop}
 (hR:∀(s:Sl) (σ':Hp) (ss:List Int),Ext0 σ σ'->ss.Perm (B.map (·.1))->ss.Pairwise (· <= ·)->SlF σ.size σ' s (ss.map (Value.int .i64))->R s σ') :
 Kx.c ⟨Uu,#[],#[.pointer (some ⟨c,0,none⟩)]⟩ σ R:=by
 rintro w rfl;have hseq:=WeN hc hm hb hs 2 (by omega);have hml:B.length<=maxLen:=by unfold maxLen;omega
 have cS:=AnyZI.sorted_in Tryz.sortedL Fence.wide 5 trivial trivial trivial trivial rfl (by omega) (Wlq _) (Tryz.sortL.f5.enters rfl) Uu #[.pointer (some ⟨c,0,none⟩)] trivial (Tryz.keysBL.f10.enters rfl) _ _ hml (by omega) _ hseq;refine(callsIn_wide.1 cS).mono ?_;rintro e w' ⟨v,ss,rfl,hp,hrow,hnil,hbe⟩;obtain⟨s,rfl,hsl⟩:=Wa0 hrow;refine⟨Wa4 hbe,[.slice s.a s.len s.cap],rfl,s,rfl,?_⟩;refine hR s _ (ss.mergeSort λx y=>decide (x<=y)) (Uy hbe) ((List.mergeSort_perm _ _).trans hp) ?_ hsl;have:=List.pairwise_mergeSort (le:=λx y:Int=>decide (x<=y)) (λa b c h1 h2=>by simp at *;omega) (λa b=>by simp;omega) ss;exact this.imp (λh=>by simpa using h)
def bkV (b:Bk):List Value:=[.int .i64 b.1,.int .i64 b.2.1,.int .i64 b.2.2.1,.int .i64 b.2.2.2]
def bksV (bs:List Bk):List Value:=bs.flatMap bkV
theorem U1 (bs:List Bk):(bksV bs).length=bs.length*4:=by
 unfold bksV
 induction bs with
 | nil=>rfl
 | cons b bs ih=>rw[zBN,zJ,ih];simp[bkV];omega
theorem Wal:∀{bs:List Bk} {i:Nat} {b:Bk},bs[i]?=some b->∀{j:Nat} {v:Value},(bkV b)[j]?=some v->(bksV bs)[4*i+j]?=some v
 | [],i,b,h,_,_,_=>by simp at h
 | a::bs,0,b,h,j,v,hv=>by
  simp only[zEK,Option.some.injEq]at h;subst h;have hj:=(gSi.1 hv).1;show(bkV a++bksV bs)[4*0+j]?=_;rw[show 4*0+j=j by omega,zd hj];exact hv
 | a::bs,i+1,b,h,j,v,hv=>by
  have ih:=Wal (bs:=bs) (i:=i) (b:=b) (by simpa using h) hv;show(bkV a++bksV bs)[4*(i+1)+j]?=_;rw[zk (by simp[bkV];omega)];have:4*(i+1)+j-(bkV a).length=4*i+j:=by simp[bkV];omega
  rw[this];exact ih
structure LiveL (live:List (Int×Bk)) (bs:List Bk):Prop where
 len:bs.length=live.length
 mem:∀b,b∈bs↔(b.1,b)∈live
 srt:bs.Pairwise λa b=>a.1<b.1
theorem HI.live_len (h:HI H held s0):H.live.length<=1000000:=by
 have hn:(H.live.map λe=>e.1.toNat).Nodup:=by
  have h1:=zAF.1 h.lk;refine zAF.2 λi j hi hj hij e=>?_;have hi':i<H.live.length:=by simpa using hi
  have hj':j<H.live.length:=by simpa using hj
  refine h1 i j (by simpa using hi') (by simpa using hj') hij ?_;simp only[zCI]at e ⊢;have a1:=(h.size8 (zj hi')).2.1;have a2:=(h.size8 (zj hj')).2.1;omega
 have:=Wag 270000 _ hn λx hx=>by
  obtain⟨e,he,rfl⟩:=zC.1 hx;have:=h.size8 he;omega
 have hl:(H.live.map λe=>e.1.toNat).length=H.live.length:=by simp
 omega
theorem SlR.of_slF {B:Nat}{s:Sl}{xs:List Value}(h:SlF B σ s xs):SlR s 1 xs σ (λb=>B<=b):=by
 refine⟨by have:=h.1;omega,?_⟩;rcases h.2 with⟨h0,_⟩|⟨b,cs,hb,ha,hk,hc⟩
 ·exact .inl h0
 ·exact .inr ⟨b,0,cs,hb,ha,hk.q,λj hj=>by rw[zG];exact hc j hj⟩
set_option maxRecDepth 8000 in
theorem WdJ (h:HH σ F L H)(hi:HI H held s0){R:Sl->Hp->Prop}(hR:∀s σ' bs,Ext0 σ σ'->LiveL H.live bs->RowR s 4 (bksV bs) σ' (λb=>σ.size<=b)->R s σ'):YG.c (some ⟨L.p,0,none⟩) σ R:=by
 refine YG.o ?_;unfold YG.v;have hi64:∀x∈H.live,Go.Bu.I64 x.1:=λx hx=>by have:=hi.size8 hx;unfold Go.Bu.I64;omega
 have hll:=hi.live_len;refine Vy h (ifF rfl (nilP (h.hd.rM rfl (Wip _ ?_))));have e1:Ext0 σ (σ.push (.cells #[.map (some L.lm)] Wb9 (0,0))):=Ext.push _ _ _;have h1:=h.keep0 e1;refine Weg (by unfold cell;simp) h1.liveM hi64 hll λs v2 ss e2 hp hsrt hs=>?_;have e02:=e1.trans e2;have hss:=SlR.of_slF hs;have hnd:ss.Nodup:=hp.nodup_iff.2 hi.lk;have hslen:ss.length=H.live.length:=by rw[hp.length_eq];simp
 have hsl:s.len=ss.length:=by have:=hss.1;simp at this;omega
 have hget:∀x∈ss,∃b,mget H.live x=some b/\b.1=x:=λx hx=>by
  obtain⟨e,he,rfl⟩:=zC.1 (hp.mem_iff.1 hx);exact⟨e.2,KM hi.lk he,(hi.lv e he).1⟩
 let f:Int->Bk:=λx=>(mget H.live x).getD (0,0,0,0)
 have hf1:∀x∈ss,(f x).1=x/\mget H.live x=some (f x):=λx hx=>by
  obtain⟨b,hb,hbx⟩:=hget x hx;have:f x=b:=by show(mget H.live x).getD _=b;rw[hb];rfl
  rw[this];exact⟨hbx,hb⟩
 have hz1:σ.size<v2.size:=by
  have h1:=e2.1;have h2:(σ.push (.cells #[.map (some L.lm)] Wb9 (0,0))).size=σ.size+1:=by simp
  omega
 refine Ks (a:=.s) (bb:=.i .i64) (λ(out:Sl) (z:Int) w=>∃i:Nat,z=i/\i<=ss.length/\Ext0 v2 w/\RowR out 4 (bksV ((ss.take i).map f)) w (λb=>v2.size<=b)) (λ_ z _=>ss.length-z.toNat) ⟨0,rfl,by omega,Ext.refl _ _,⟨by simp[bksV],.inl ⟨rfl,rfl⟩⟩⟩ ?_;rintro(out:Sl) (z:Int) w ⟨i,rfl,hil,ew,hr⟩;have hw:=h1.keep0 (e2.trans ew);refine ifD (λhlt=>?_) λhge=>?_
 ·have hx:ss[i]?=some (ss[i]'(by omega)):=gGe _;have hol:out.len=i:=by have:=hr.1;rw[U1]at this;simp at this;omega
  refine((SlR.loc _ _ _).keep0 ((SlR.loc _ _ _).cut hss) ew).ixI hx (nilP (hw.hd.rM rfl ⟨H.live,hw.liveM,?_⟩));refine hr.push (F:=λb=>v2.size<=b) (vs:=bkV (f (ss[i]'(by omega)))) (λb hb=>by have:=ew.1;omega) rfl rfl (by simp[bkV,one1]) (by omega) (by omega) λs' w' hsl' ew' hr'=>?_;have e3:Ext0 v2 w':=Ext.fresh ew ew' λb hb=>hb;refine arN (m:=i+1) (by omega) (by omega) ⟨⟨i+1,rfl,by omega,e3,?_⟩,by omega⟩;have:bksV ((ss.take (i+1)).map f)=bksV ((ss.take i).map f)++bkV (f (ss[i]'(by omega))):=by
   unfold bksV;rw[zr,hx,zAD,zGB];simp only[zDK,zI,zBX,zBN,List.flatMap_nil,zAL]
  rw[this];exact hr'
 ·have hin:i=ss.length:=by omega
  subst hin;rw[zAA]at hr;refine hR out w (ss.map f) (e02.trans ew) ⟨by simp[hslen],λb=>?_,?_⟩ ((RowR.loc _ _ _).mono hr λb _ hb=>by
   show σ.size<=b;have hb:v2.size<=b:=hb;omega)
  ·constructor
   ·intro hb;obtain⟨x,hx,rfl⟩:=zC.1 hb;obtain⟨q1,q2⟩:=hf1 x hx;rw[q1];exact KF q2
   ·intro hb;have hx:b.1∈ss:=hp.mem_iff.2 (zC.2 ⟨_,hb,rfl⟩);refine zC.2 ⟨b.1,hx,?_⟩;have:=(hf1 _ hx).2;rw[KM hi.lk hb]at this;exact(Option.some.inj this).symm
  ·rw[zCB];have hlt:ss.Pairwise (· < ·):=(hsrt.and hnd).imp λ⟨h1,h2⟩=>by
    have:_≠_:=h2;omega
   refine zAF.2 λi j hi hj hij=>?_;rw[(hf1 _ (zj hi)).1,(hf1 _ (zj hj)).1];exact zAF.1 hlt i j hi hj hij
theorem WkP {s:Sl}{bs:List Bk}(hs:SlR s 4 (bksV bs) σ F){i:Nat}{b:Bk}(hb:bs[i]?=some b){K:Addr->Prop}(hK:∀bb o,(∀(j:Nat) v,(bkV b)[j]?=some v->cell σ ⟨bb,o+j,none⟩=some v)->K ⟨bb,o,none⟩):Ix s.a s.len (i:Int) 4 K:=by
 have hil:=(gSi.1 hb).1;have hl:s.len=bs.length:=by have:=hs.1;rw[U1]at this;omega
 obtain⟨bb,o,ha,h0⟩:=hs.cell (Wal hb (j:=0) rfl);rw[ha];refine ix (by omega) (by omega) ?_;rw[add_lit,iTn];refine hK bb _ λj v hv=>?_;obtain⟨b',o',ha',hc⟩:=hs.cell (Wal hb hv);rw[ha]at ha';cases ha';rw[←hc];congr 2;omega
end Go.Ar
namespace Go.Ar
open Go.Bu (cnt)
variable {W:Wd}{k:Nat}{A:AR}
def at2 {α:Type}(f:Cls->α->Nat)(tb:List Cls)(l:List α)(j:Nat):Nat:=match tb[j]?,l[j]? with
 | some c,some a=>f c a
 | _,_=>0
theorem Wlp {α:Type}{f:Cls->α->Nat}{tb:List Cls}{l:List α}{j:Nat}{c:Cls}{a:α}(h1:tb[j]?=some c)(h2:l[j]?=some a):at2 f tb l j=f c a:=by unfold at2;rw[h1,h2]
theorem WfT {α:Type}(f:Cls->α->Nat):∀(tb:List Cls) (l:List α),l.length=tb.length->((tb.zip l).map λx=>f x.1 x.2).sum=((List.range tb.length).map (at2 f tb l)).sum
 | [],l,h=>by simp
 | c::tb,[],h=>by simp at h
 | c::tb,a::l,h=>by
  have ih:=WfT f tb l (by simpa using h);rw[zGH,zI,zp,ih,zU,zGF,zI,zp,zAJ];rfl
def pgL (c:Cls)(ss:List SpA):List Nat:=ss.flatMap λs=>(List.range c.pages).map (s.st + ·)
theorem Wku (c:Cls)(ss:List SpA):(pgL c ss).length=ss.length*c.pages:=by
 induction ss with
 | nil=>simp[pgL]
 | cons s ss ih=>
  have e:pgL c (s::ss)=(List.range c.pages).map (s.st + ·)++pgL c ss:=rfl;rw[e,zJ,ih];simp[zc];omega
theorem Wcg {c:Cls}{ss:List SpA}{p:Nat}:p∈pgL c ss↔Cov c ss p:=by
 simp only[pgL,zFI,zC,zW,Cov];constructor
 ·rintro⟨s,hs,i,hi,rfl⟩;exact⟨s,hs,by omega,by omega⟩
 ·rintro⟨s,hs,h1,h2⟩;exact⟨s,hs,p-s.st,by omega,by omega⟩
theorem Wgw {c:Cls}{ss:List SpA}(h:ss.Pairwise λa b=>a.st+c.pages<=b.st):(pgL c ss).Nodup:=by
 induction ss with
 | nil=>exact zCE
 | cons s ss ih=>
  have hp:=zBT.1 h;have e:pgL c (s::ss)=(List.range c.pages).map (s.st + ·)++pgL c ss:=rfl;rw[e,zAY];refine⟨?_,ih hp.2,λa ha b hb e=>?_⟩
  ·exact List.Pairwise.map (R:=(· ≠ ·)) _ (λa b hab e=>hab (by omega)) zEZ
  ·subst e;obtain⟨i,hi,rfl⟩:=zC.1 ha;obtain⟨t,ht,h1,h2⟩:=Wcg.1 hb;have:=hp.1 t ht;have:=zW.1 hi;omega
def rnL (l:List (Nat×Nat)):List Nat:=l.flatMap λr=>(List.range r.2).map (r.1 + ·)
theorem Wjn (l:List (Nat×Nat)):(rnL l).length=(l.map (·.2)).sum:=by
 induction l with
 | nil=>rfl
 | cons r l ih=>
  have e:rnL (r::l)=(List.range r.2).map (r.1 + ·)++rnL l:=rfl;rw[e,zJ,ih];simp
theorem Wce {l:List (Nat×Nat)}{p:Nat}:p∈rnL l↔inR l p:=by
 simp only[rnL,zFI,zC,zW,inR];constructor
 ·rintro⟨s,hs,i,hi,rfl⟩;exact⟨s,hs,by omega,by omega⟩
 ·rintro⟨s,hs,h1,h2⟩;exact⟨s,hs,p-s.1,by omega,by omega⟩
theorem WfU {l:List (Nat×Nat)}(h:l.Pairwise λa b=>a.1+a.2<=b.1\/b.1+b.2<=a.1):(rnL l).Nodup:=by
 induction l with
 | nil=>exact zCE
 | cons s ss ih=>
  have hp:=zBT.1 h;have e:rnL (s::ss)=(List.range s.2).map (s.1 + ·)++rnL ss:=rfl;rw[e,zAY];refine⟨?_,ih hp.2,λa ha b hb e=>?_⟩
  ·exact List.Pairwise.map (R:=(· ≠ ·)) _ (λa b hab e=>hab (by omega)) zEZ
  ·subst e;obtain⟨i,hi,rfl⟩:=zC.1 ha;obtain⟨t,ht,h1,h2⟩:=Wce.1 hb;have:=hp.1 t ht;have:=zW.1 hi;omega
theorem Wab {n:Nat}{l:List Nat}(hn:l.Nodup)(hl:∀x∈l,x<n){f:Nat->Bool}(hf:∀p,p<n->(f p=true↔p∈l)):(List.range n).countP f=l.length:=by
 rw[zEG];refine List.Perm.length_eq ?_;rw[zEF (List.nodup_range.filter _) hn];intro x;rw[zH,zW];exact⟨λ⟨a,b⟩=>(hf x a).1 b,λhx=>⟨hl x hx,(hf x (hl x hx)).2 hx⟩⟩
theorem Wfm (ga:GA A):KU A+KZ A+cnt A.n A.S=(List.range A.n).countP λ(p:Nat)=>VB A (p:Int):=by
 have key:∀m,m<=A.tb.length->(List.range A.n).countP (λp=>A.ow p != 0&&decide (A.ow p<=m))=((List.range m).map (at2 (λc ss=>ss.length*c.pages) A.tb A.cen)).sum:=by
  intro m
  induction m with
  | zero=>
   intro _;simp
  | succ m ih=>
   intro hm;rw[zBD,zAD,zDR,←ih (by omega),List.map_singleton,List.sum_singleton];obtain⟨c,ss,t,hc,_⟩:=ga.cl (k:=m) (by omega);have hC:=ga.cen m c ss hc;rw[Wlp hc.1 hc.2,←Wku c ss,←Wab (n:=A.n) (Wgw hC.far) (λx hx=>by
    obtain⟨s,hs,h1,h2⟩:=Wcg.1 hx;exact ga.pg.lt (by rw[(ga.used hc hs h1 h2).1];omega)) (f:=λp=>A.ow p==m+1) (λp _=>by rw[Wcg,←ga.ow m c ss hc p];simp)]
   symm
   apply Go.Bu.countP_add;intro p _;by_cases h1:A.ow p=m+1
   ·simp[h1]
   ·by_cases h2:A.ow p<=m
    ·have:(A.ow p==m+1)=false:=by simpa using h1
     have h3:decide (A.ow p<=m+1)=true:=by simp;omega
     simp[this,h2,h3]
    ·have:(A.ow p==m+1)=false:=by simpa using h1
     have h3:¬A.ow p<=m+1:=by omega
     simp[this,h2,h3]
 have k1:=key A.tb.length (zD _);have e1:KU A=(List.range A.n).countP (λp=>A.ow p != 0&&decide (A.ow p<=A.tb.length)):=by
  rw[k1];unfold KU;rw[WfT (λc ss=>ss.length*c.pages) A.tb A.cen ga.lc]
 have e2:KZ A=(List.range A.n).countP (λp=>A.ow p==41):=by
  unfold KZ;rw[←Wjn,Wab (WfU ga.rdis) (λx hx=>by
   obtain⟨r,hr,h1,h2⟩:=Wce.1 hx;exact ga.pg.lt (by rw[(ga.usedR hr h1 h2).1];omega)) (f:=λp=>A.ow p==41) (λp _=>by rw[Wce,←ga.ow41];simp)]
 have htb:=ga.tb;have e3:(List.range A.n).countP (λp=>A.ow p != 0&&decide (A.ow p<=A.tb.length))+(List.range A.n).countP (λp=>A.ow p==41)=(List.range A.n).countP (λp=>A.ow p != 0):=by
  apply Go.Bu.countP_add;intro p _;rcases ga.owb p with h1|h1
  ·have:¬A.ow p<=A.tb.length:=by omega
   simp[h1];omega
  ·have:(A.ow p==41)=false:=by simp;omega
   simp[this,h1]
 have e4:(List.range A.n).countP (λp=>A.ow p != 0)+(List.range A.n).countP A.S=(List.range A.n).countP λ(p:Nat)=>VB A (p:Int):=by
  apply Go.Bu.countP_add;intro p _;have hu:=ga.pg.us p;have hs:=ga.pg.fr p;have ho:VB A (p:Int)=decide (A.f p≠0):=by
   unfold VB AR.f gf;rw[zQ (show(0:Int)<=p by omega),zDS,iTn]
  rw[ho];have hle:=ga.pg.le p;by_cases h0:A.f p=0
  ·have:A.ow p=0:=Classical.byContradiction λhn=>by have:=hu.2 hn;omega
   have hS:A.S p=false:=by apply zAQ.2;intro hx;have:=hs.1 hx;omega
   simp[h0,this,hS]
  ·by_cases h1:A.f p=1
   ·have hw:=hu.1 h1;have hS:A.S p=false:=by apply zAQ.2;intro hx;have:=hs.1 hx;omega
    simp[h1,hw,hS]
   ·have:A.ow p=0:=Classical.byContradiction λhn=>h1 (hu.2 hn);have hS:A.S p=true:=hs.2 (by omega);simp[h0,this,hS]
 unfold cnt;rw[e1,e2,e3,e4]
theorem Wat (ga:GA A):KZ A<=1024:=by
 have h1:=Wfm ga;have h2:(List.range A.n).countP (λ(p:Nat)=>VB A (p:Int))<=A.n:=by
  refine ze zEH ?_;rw[zCY];exact zD _
 have:=ga.pg.n2;omega
end Go.Ar
namespace Go.Ar
open Go Go.Vc Go.Proofs
open Go.Vc (mget mset mdel)
open Go.Bu (cnt)
variable {σ v w w':Hp}{F P Q X:Rg}{L:LayH}{H H':Hw}{held:List Pc}{s0:Sp}{t n:Nat}{g:Th}{nb sb m:Nat}{x:List Int}
def sz0 (b:Bk):Int:=if 0<=b.2.2.1 then b.2.1 else 0
def VY (l:List (Int×Bk)):Int:=(l.map λe=>sz0 e.2).sum
def KG (H:Hw):Nat:=(H.ths.map λg=>ZI H.tb g.ls).sum
def Q8 (f:AR->Nat)(H:Hw):Nat:=(H.ars.map f).sum
def Kg (A:AR):Nat:=cnt A.n A.S
theorem Wc0 {α:Type}(f:α->Int):∀{l:List (Int×α)} {n:Int} {x:α},(l.map (·.1)).Nodup->(n,x)∈l->(l.map λe=>f e.2).sum=f x+((l.filter λy=>!(y.1==n)).map λe=>f e.2).sum
 | [],_,_,_,h=>by simp at h
 | y::l,n,x,hn,h=>by
  simp only[zI,zm]at hn;rcases zX.1 h with h1|h1
  ·subst h1;have:l.filter (λy=>!(y.1==n))=l:=by
    rw[zBE];intro z hz;have:z.1≠n:=λe=>hn.1 (zC.2 ⟨z,hz,e⟩);simpa using this
   rw[zEL (by simp),this];simp
  ·have hne:y.1≠n:=λe=>hn.1 (zC.2 ⟨_,h1,e.symm⟩);rw[zEM (by simpa using hne)];simp only[zI,zp];rw[Wc0 f hn.2 h1];omega
theorem Ux {α:Type}{f:α->Int}{c:Int}:∀{l:List α},(∀e∈l,0<=f e/\f e<=c)->0<=(l.map f).sum/\(l.map f).sum<=l.length*c
 | [],_=>by simp
 | a::l,h=>by
  have h1:=h a zCC;have h2:=Ux λe he=>h e (zBK _ he);simp only[zI,zp,zU,Int.natCast_add,Int.add_mul];omega
theorem Wgx (hi:HI H held s0){e:Int×Bk}(he:e∈H.live):0<=sz0 e.2/\sz0 e.2<=270000:=by
 have:=hi.size8 he;unfold sz0;split<;>omega
theorem Wba {α:Type}(f:α->Nat){l:List α}{i:Nat}{a:α}(h:l[i]?=some a):((l.take (i+1)).map f).sum=((l.take i).map f).sum+f a:=by
 rw[zr,h];simp
theorem Wjd {α:Type}{f:α->Nat}{c:Nat}{l:List α}(h:∀a∈l,f a<=c):(l.map f).sum<=l.length*c:=by
 induction l with
 | nil=>simp
 | cons a l ih=>
  have h1:=h a zCC;have h2:=ih λe he=>h e (zBK _ he);simp only[zI,zp,zU,zc];omega
theorem Wd0 {α:Type}{f:α->Nat}{c:Nat}{l:List α}(h:∀a∈l,f a<=c)(i:Nat):((l.take i).map f).sum<=i*c:=
 ze (Wjd λa ha=>h a (zBS ha)) (zAG c (by rw[zY];omega))
def KI:List Value:=[.int .i64 0,.int .i64 0,.int .i64 0,.int .i64 0,.int .i64 0,.int .i64 0,.int .i64 0,.int .i64 0,.int .i64 0,.int .i64 0,.int .i64 0]
structure StB (σ:Hp) (nb sb:Nat) (v:Hp) (x:List Int):Prop where
 e:Ext0 σ v
 n:Blk v nb KI
 s:Blk v sb (x.map (Value.int .i64))
 h1:σ.size<=nb
 h2:σ.size<=sb
 h3:nb≠sb
 hl:x.length=11
theorem StB.fr (h:StB σ nb sb v x)(e:Ext0 v w):StB σ nb sb w x:=⟨h.e.trans e,e.blk h.n id,e.blk h.s id,h.h1,h.h2,h.h3,h.hl⟩
theorem StB.own (h:StB σ nb sb v x)(o:ZY v w m)(h4:v.size<=m\/m≠nb/\m≠sb/\σ.size<=m):StB σ nb sb w x:=by
 have hn:=h.n.lt;have hs:=h.s.lt;have hz:=h.e.1;exact⟨Ext.fresh h.e o.ext λi (hi:i=m)=>by omega,o.ext.blk h.n λ(hx:nb=m)=>by omega,o.ext.blk h.s λ(hx:sb=m)=>by omega,h.h1,h.h2,h.h3,h.hl⟩
theorem StB.rd (h:StB σ nb sb v x){i:Nat}{y:Int}(hy:x[i]?=some y){K:Int->Prop}(hK:K y):LdI .i64 (Addr.add ⟨sb,0,none⟩ i) v K:=
 h.s.rI (by rw[zG,za,hy];rfl) hK
theorem StB.st (h:StB σ nb sb v x){i:Nat}{y:Int}(hi:i<11){K:Hp->Prop}(hK:∀w,Ext (· = sb) v w->StB σ nb sb w (x.set i y)->K w):St1 (Addr.add ⟨sb,0,none⟩ i) (.int .i64 y) v K:=by
 have hl:=h.hl;refine h.s.s1 (by rw[zh];omega) λw o b=>hK w o.ext ⟨Ext.fresh h.e o.ext λi (hi:i=sb)=>by have:=h.h2;omega,o.ext.blk h.n λ(hx:nb=sb)=>h.h3 hx,?_,h.h1,h.h2,h.h3,by rw[zBQ,hl]⟩;rw[zG,←zDQ]at b;exact b
theorem WlD {K:Fam [.ad]}{body:Fam [.ad]->Prop}(P:Addr->Hp->Prop)(h1:∀r w,P r w->K r w)(h2:∀J:Fam [.ad],(∀r w,P r w->J r w)->body J):Jn [.ad] K body:=Jn.intro (h2 K h1)
theorem BtR.nil_len {s:Sl}(h:BtR s [] σ F):s.len=0:=by have:=h.len;simpa using this
theorem HH.hnS (h:HH σ F L H){x:LayT}(hx:L.ts[t]?=some x)(hg:H.ths[t]?=some g):BtR x.h g.hands σ F:=by
 obtain⟨G,hG,hb⟩:=h.sep.get (.hn t);simp only[CH,hx,hg,HnH]at hb;exact Lcl.mono (BtR.loc _ _) hb λb _ hb=>hG b hb
theorem HH.caS (h:HH σ F L H){x:LayT}(hx:L.ts[t]?=some x)(hg:H.ths[t]?=some g):CaY σ F x.c H.tb H.cf.budget g.ls:=by
 obtain⟨G,hG,hb⟩:=h.sep.get (.ca t);simp only[CH,hx,hg,CaH]at hb;exact Lcl.mono CaY.loc hb λb _ hb=>hG b hb
theorem HT {A:AR}(ga:GA A):Kg A<=1024:=by
 have h2:Kg A<=A.n:=by
  unfold Kg cnt;refine ze zEH ?_;rw[zCY];exact zD _
 have:=ga.pg.n2;omega
theorem StB.rdH (h:StB σ nb sb v x){i:Nat}{y:Int}(hy:x[i]?=some y){K:Int->Prop}(hK:K y):LdH (λm=>Ext0 v m) (.i .i64) (Addr.add ⟨sb,0,none⟩ i) K:=
 ⟨y,λm hm=>by rw[add_lit,(Ext.blk hm h.s id).cell,zG,za,hy];rfl,hK⟩
theorem Blk.rH {b i:Nat}{cs:List Value}{c:CK}{y:c.T}(hb:Blk v b cs)(hc:cs[i]?=some (c.v y)){K:c.T->Prop}(hK:K y):LdH (λm=>Ext0 v m) c (Addr.add ⟨b,0,none⟩ i) K:=
 ⟨y,λm hm=>by rw[add_lit,(Ext.blk hm hb id).cell,zG];exact hc,hK⟩
theorem st11 {b:Nat}(hb:Blk v b KI)(a0 a1 a2 a3 a4 a5 a6 a7 a8 a9 a10:Int){K:Hp->Prop}(hK:∀w,Ext (· = b) v w->Blk w b ([a0,a1,a2,a3,a4,a5,a6,a7,a8,a9,a10].map (Value.int .i64))->K w) :
 St1 (Addr.add ⟨b,0,none⟩ 0) (.int .i64 a0) v λv57=>St1 (Addr.add ⟨b,0,none⟩ 1) (.int .i64 a1) v57 λv58=>St1 (Addr.add ⟨b,0,none⟩ 2) (.int .i64 a2) v58 λv59=>St1 (Addr.add ⟨b,0,none⟩ 3) (.int .i64 a3) v59 λv60=>
 St1 (Addr.add ⟨b,0,none⟩ 4) (.int .i64 a4) v60 λv61=>St1 (Addr.add ⟨b,0,none⟩ 5) (.int .i64 a5) v61 λv62=>St1 (Addr.add ⟨b,0,none⟩ 6) (.int .i64 a6) v62 λv63=>St1 (Addr.add ⟨b,0,none⟩ 7) (.int .i64 a7) v63 λv64=>
 St1 (Addr.add ⟨b,0,none⟩ 8) (.int .i64 a8) v64 λv65=>St1 (Addr.add ⟨b,0,none⟩ 9) (.int .i64 a9) v65 λv66=>St1 (Addr.add ⟨b,0,none⟩ 10) (.int .i64 a10) v66 K:=by
 unfold KI at hb;refine hb.s1 (by simp) λv1 o1 b1=>b1.s1 (by simp) λv2 o2 b2=>b2.s1 (by simp) λv3 o3 b3=>b3.s1 (by simp) λv4 o4 b4=>b4.s1 (by simp) λv5 o5 b5=>b5.s1 (by simp) λv6 o6 b6=>b6.s1 (by simp) λv7 o7 b7=>b7.s1 (by simp) λv8 o8 b8=>b8.s1 (by simp) λv9 o9 b9=>b9.s1 (by simp) λv10 o10 b10=>b10.s1 (by simp) λv11 o11 b11=>?_;exact hK v11 ((((((((((o1.ext.trans o2.ext).trans o3.ext).trans o4.ext).trans o5.ext).trans o6.ext).trans o7.ext).trans o8.ext).trans o9.ext).trans o10.ext).trans o11.ext) b11
theorem StB.fin {a0 a1 a2 a3 a4 a5 a6 a7 a8 a9 a10:Int}(B:StB σ nb sb v [a0,a1,a2,a3,a4,a5,a6,a7,a8,a9,a10]){R:Int->Int->Int->Int->Int->Int->Int->Int->Int->Int->Int->Hp->Prop}(hR:∀w,Ext0 σ w->R a0 a1 a2 a3 a4 a5 a6 a7 a8 a9 a10 w) :
 LdI .i64 (Addr.add ⟨sb,0,none⟩ 0) v λt0=>LdI .i64 (Addr.add ⟨sb,0,none⟩ 1) v λt1=>LdI .i64 (Addr.add ⟨sb,0,none⟩ 2) v λt2=>LdI .i64 (Addr.add ⟨sb,0,none⟩ 3) v λt3=>LdI .i64 (Addr.add ⟨sb,0,none⟩ 4) v λt4=>
 LdI .i64 (Addr.add ⟨sb,0,none⟩ 5) v λt5=>LdI .i64 (Addr.add ⟨sb,0,none⟩ 6) v λt6=>LdI .i64 (Addr.add ⟨sb,0,none⟩ 7) v λt7=>LdI .i64 (Addr.add ⟨sb,0,none⟩ 8) v λt8=>LdI .i64 (Addr.add ⟨sb,0,none⟩ 9) v λt9=>LdI .i64 (Addr.add ⟨sb,0,none⟩ 10) v λt10=>
 St1 (Addr.add ⟨nb,0,none⟩ 0) (.int .i64 t0) v λv57=>St1 (Addr.add ⟨nb,0,none⟩ 1) (.int .i64 t1) v57 λv58=>St1 (Addr.add ⟨nb,0,none⟩ 2) (.int .i64 t2) v58 λv59=>St1 (Addr.add ⟨nb,0,none⟩ 3) (.int .i64 t3) v59 λv60=>
 St1 (Addr.add ⟨nb,0,none⟩ 4) (.int .i64 t4) v60 λv61=>St1 (Addr.add ⟨nb,0,none⟩ 5) (.int .i64 t5) v61 λv62=>St1 (Addr.add ⟨nb,0,none⟩ 6) (.int .i64 t6) v62 λv63=>St1 (Addr.add ⟨nb,0,none⟩ 7) (.int .i64 t7) v63 λv64=>
 St1 (Addr.add ⟨nb,0,none⟩ 8) (.int .i64 t8) v64 λv65=>St1 (Addr.add ⟨nb,0,none⟩ 9) (.int .i64 t9) v65 λv66=>St1 (Addr.add ⟨nb,0,none⟩ 10) (.int .i64 t10) v66 λv67=>
 LdI .i64 (Addr.add ⟨nb,0,none⟩ 0) v67 λt0=>LdI .i64 (Addr.add ⟨nb,0,none⟩ 1) v67 λt1=>LdI .i64 (Addr.add ⟨nb,0,none⟩ 2) v67 λt2=>LdI .i64 (Addr.add ⟨nb,0,none⟩ 3) v67 λt3=>LdI .i64 (Addr.add ⟨nb,0,none⟩ 4) v67 λt4=>
 LdI .i64 (Addr.add ⟨nb,0,none⟩ 5) v67 λt5=>LdI .i64 (Addr.add ⟨nb,0,none⟩ 6) v67 λt6=>LdI .i64 (Addr.add ⟨nb,0,none⟩ 7) v67 λt7=>LdI .i64 (Addr.add ⟨nb,0,none⟩ 8) v67 λt8=>LdI .i64 (Addr.add ⟨nb,0,none⟩ 9) v67 λt9=>LdI .i64 (Addr.add ⟨nb,0,none⟩ 10) v67 λt10=>
 R t0 t1 t2 t3 t4 t5 t6 t7 t8 t9 t10 v67:=by
 refine B.rd rfl (B.rd rfl (B.rd rfl (B.rd rfl (B.rd rfl (B.rd rfl (B.rd rfl (B.rd rfl (B.rd rfl (B.rd rfl (B.rd rfl (st11 B.n a0 a1 a2 a3 a4 a5 a6 a7 a8 a9 a10 λw e b=>?_)))))))))));refine b.rI rfl (b.rI rfl (b.rI rfl (b.rI rfl (b.rI rfl (b.rI rfl (b.rI rfl (b.rI rfl (b.rI rfl (b.rI rfl (b.rI rfl (hR w ?_)))))))))));exact Ext.fresh B.e e λi (hi:i=nb)=>by have:=B.h1;omega
theorem HH.tBox (h:HH σ F L H){x:LayT}(hx:L.ts[t]?=some x)(hg:H.ths[t]?=some g){ty:Nat}{K:Addr->Hp->Prop}(hK:∀v,Ext0 σ v->σ.size<v.size->Blk v σ.size (thV (x,g))->K ⟨σ.size,0,none⟩ v) :
 Ix L.trow.a L.trow.len (t:Int) 3 λa58=>LdP (a58.add 0) σ λt59=>LdS (a58.add 1) σ λt591=>LdR (a58.add 2) σ λt592=>
  Nw (.cells #[.pointer none,.slice none 0 0,.nilIface] ty (0,0)) σ λn7 v17=>O1 t592<|St1 (n7.add 0) (.pointer t59) v17 λv18=>St1 (n7.add 1) (.slice t591.a t591.len t591.cap) v18 λv19=>St1 (n7.add 2) t592 v19 λv20=>K n7 v20:=by
 obtain⟨b,o,ha,c0⟩:=Vb h.trowS hx hg (d:=0) (by omega) rfl;obtain⟨b1,o1,ha1,c1⟩:=Vb h.trowS hx hg (d:=1) (by omega) rfl;obtain⟨b2,o2,ha2,c2⟩:=Vb h.trowS hx hg (d:=2) (by omega) rfl;rw[ha]at ha1 ha2;cases ha1;cases ha2;have hl:=h.trowL;have hk:=(gSi.1 hg).1;rw[ha];refine ix (by omega) (by omega) ?_;rw[add_lit,show o+(t:Int).toNat*3=o+3*t by omega];refine ldP (by rw[add_lit,zBU];exact c0) (ldS (by rw[add_lit,zBU];exact c1) ⟨_,by rw[add_lit,zBU];exact c2,?_⟩);refine nw (cs:=[.pointer none,.slice none 0 0,.nilIface]) λv2 hz2 e2 b2=>?_;have ho:∀{A:Prop},A->O1 (phV g.ph) A:=λ{A} hA=>by
  cases g.ph with
  | none=>exact hA
  | some p=>cases p<;>exact hA
 refine ho (b2.s1 (by simp) λv3 o3 b3=>b3.s1 (by simp) λv4 o4 b4=>b4.s1 (by simp) λv5 o5 b5=>?_);exact hK v5 (Ext.fresh (Ext.fresh (Ext.fresh e2 o3.ext λi hi=>by omega) o4.ext λi hi=>by omega) o5.ext λi hi=>by omega) (by have:=o3.1;have:=o4.1;have:=o5.1;omega) b5
structure StOk (H:Hw):Prop where
 cache:KG H<=20971520
 moved:Q8 KV H<=160000000000
 room:Q8 HD H<=160000000000
 tails:Q8 Ve H<=160000000000
 spans:Q8 KU H<=160000000000
 runs:Q8 KZ H<=4096
 free:Q8 Kg H<=4096
set_option maxRecDepth 16000 in
theorem Wbm (h:HH σ F L H)(hi:HI H held s0)(hh:∀g∈H.ths,g.hands=[]){R:Int->Int->Int->Int->Int->Int->Int->Int->Int->Int->Int->Hp->Prop}
 (hR:∀σ',Ext0 σ σ'->StOk H->R (VY H.live) (KG H:Nat) 0 (Q8 KV H:Nat) (Q8 HD H:Nat) (Q8 Ve H:Nat) (Q8 KZ H*256:Nat) (Q8 KU H:Nat) (Q8 Kg H:Nat) (Kr H.sp.st:Nat) (H.sp.st.count 2:Nat) σ'):Yp.c (some ⟨L.p,0,none⟩) σ R:=by
 refine Yp.o ?_;unfold Yp.v;refine nw (cs:=KI) λv hz e hb=>Vy (h.keep0 e) (ifF rfl ?_);have hv:=h.keep0 e;generalize hm0:((Kr H.sp.st:Nat):Int)=M at hR;generalize hd0:((H.sp.st.count 2:Nat):Int)=D at hR;refine WlD (λs w=>∃sb,s=⟨sb,0,none⟩/\StB σ σ.size sb w [0,0,0,0,0,0,0,0,0,M,D]) (λs w ⟨sb,hs,B⟩=>?_) λJ hJ=>?_
 ·subst hs;have hw:=h.keep0 B.e;have B0:=B;refine nilP (hw.hd.rM rfl ?_);have hml:=hw.liveM;have hll:=hi.live_len;refine rng0 (c:=.ag 4) hml (λ(todo:List (Int×Bk)) u=>∃z:Int,StB σ σ.size sb u [z,0,0,0,0,0,0,0,0,M,D]/\(todo.map (·.1)).Nodup/\(∀y∈todo,y∈H.live)/\0<=z/\z+(todo.map λe=>sz0 e.2).sum=VY H.live) (λu hz eu=>⟨0,B.fr eu,hml.nodup,λy hy=>hy,by omega,by rw[Int.zero_add];rfl⟩) (λu ⟨z,B,_,_,_,hz⟩=>?_) ?_
  ·have hz':z=VY H.live:=by simpa using hz
   subst hz';have hu:=h.keep0 B.e;have ht2:=h.s.t2;refine nilP (hu.hd.rS rfl ?_);refine Zw (a:=.i .i64) (λ(i:Int) u=>∃k:Nat,i=k/\k<=H.ths.length/\StB σ σ.size sb u [VY H.live,(((H.ths.take k).map λg=>ZI H.tb g.ls).sum:Nat),0,0,0,0,0,0,0,M,D]/\((H.ths.take k).map λg=>ZI H.tb g.ls).sum<=k*5242880) (λi _=>H.ths.length-i.toNat) ⟨0,rfl,by omega,by simpa using B,by simp⟩ ?_;rintro(i:Int) u1 ⟨k,rfl,hk,B,hsum⟩;have h1:=h.keep0 B.e;have htl:=h1.trowL;refine ifD (λhlt=>?_) λhge=>?_
   ·have hlt':k<H.ths.length:=by simp only at hlt;omega
    obtain⟨x,g,hx,hg⟩:=h1.th hlt';have hsb:=B.s.lt;refine h1.tBox hx hg λv1 e1 hlt1 b1=>?_;have B1:=B.fr e1;have h2:=h1.keep0 e1;have hca:=h2.caS hx hg;have hby:=Wbc hca hca.lok;have hnl:=h2.hnS hx hg;rw[hh g (zE hg)]at hnl;refine⟨λm=>Ext0 v1 m,Ext.refl _ _,B1.rdH rfl (Blk.rH (c:=.p) (y:=some ⟨x.c.p,0,none⟩) b1 rfl (Wa3 hca λv2 e2=>⟨e2,?_⟩))⟩;have B2:=B1.fr e2;have b2:=e2.blk b1 id;have hs:=Wba (λg=>ZI H.tb g.ls) hg;refine arN (m:=((H.ths.take (k+1)).map λg=>ZI H.tb g.ls).sum) (by rw[hs];simp) (by rw[hs];omega) (B2.st (by omega) λv3 e3 B3=>?_);have b3:=e3.blk b2 (λ(hx:u1.size=sb)=>by omega);refine b3.rS rfl (Zw (a:=.i .i64) (λ(c:Int) w=>w=v3/\c=0) (λ_ _=>0) ⟨rfl,rfl⟩ ?_);rintro(c:Int) w ⟨rfl,rfl⟩;refine ifD (λhl=>?_) λ_=>arN (m:=k+1) (by omega) (by omega) ⟨⟨k+1,rfl,by omega,B3,by rw[hs];omega⟩,by omega⟩;have:=hnl.nil_len;simp only at hl;omega
   ·have hkk:k=H.ths.length:=by simp only at hge;omega
    subst hkk;rw[zAA]at B hsum;have hsum':KG H<=20971520:=by unfold KG;omega
    have ha2:=h.s.a2;refine nilP (h1.hd.rS rfl ?_);have hga:∀A∈H.ars,GA A:=λA hA=>by obtain⟨k,hk⟩:=zL hA;exact hi.wi.ga k A hk
    let P (f:AR->Nat) (k:Nat):Nat:=((H.ars.take k).map f).sum
    have hP:∀(f:AR->Nat) {k:Nat} {A:AR},H.ars[k]?=some A->P f (k+1)=P f k+f A:=λf _ _ hA=>Wba f hA;have hPl:∀{f:AR->Nat} {c:Nat},(∀A∈H.ars,f A<=c)->∀k,P f k<=k*c:=λhf k=>Wd0 hf k;have hPe:∀f,P f H.ars.length=Q8 f H:=λf=>by show((H.ars.take H.ars.length).map f).sum=_;rw[zAA];rfl
    have hP0:∀f,P f 0=0:=λf=>by show((H.ars.take 0).map f).sum=0;simp
    clear_value P
    refine Zw (a:=.i .i64) (λ(i:Int) u=>∃k:Nat,i=k/\k<=H.ars.length/\StB σ σ.size sb u [VY H.live,(KG H:Nat),0,(P KV k:Nat),(P HD k:Nat),(P Ve k:Nat),(P KZ k*256:Nat),(P KU k:Nat),(P Kg k:Nat),M,D]/\P KV k<=k*40000000000/\P HD k<=k*40000000000/\P Ve k<=k*40000000000/\P KU k<=k*40000000000) (λi _=>H.ars.length-i.toNat) ⟨0,rfl,by omega,?_⟩ ?_
    ·rw[hP0,hP0,hP0,hP0,hP0,hP0];exact⟨B,by omega,by omega,by omega,by omega⟩
    rintro(i:Int) u2 ⟨k,rfl,hk,B,l1,l2,l3,l4⟩;have h2:=h.keep0 B.e;have hal:=h2.arowL;refine ifD (λhlt=>?_) λhge=>?_
    ·have hlt':k<H.ars.length:=by simp only at hlt;omega
     have hA:H.ars[k]?=some H.ars[k]:=gGe _;generalize H.ars[k]=A at hA;have ga:=hga A (zE hA);have r5:=Wat ga;have r6:=HT ga;obtain⟨Y,hy,_,hAY⟩:=h2.ar hA;refine h2.rA hy (WcF hAY (by omega) λv2 e2 ⟨r1,r2,r3,r4⟩=>?_);have B2:=B.fr e2;have s1:=hP KV hA;have s2:=hP HD hA;have s3:=hP Ve hA;have s4:=hP KU hA;have s5:=hP KZ hA;have s6:=hP Kg hA;have l5:=hPl (f:=KZ) (λA hA=>Wat (hga A hA)) k;have l6:=hPl (f:=Kg) (λA hA=>HT (hga A hA)) k;have hfr:((cnt A.n A.S:Nat):Int)=(Kg A:Nat):=rfl;refine B2.rd rfl (arN (m:=P KV (k+1)) (by rw[s1];simp) (by omega) (B2.rd rfl (arN (m:=P HD (k+1)) (by rw[s2];simp) (by omega) (B2.rd rfl (arN (m:=P Ve (k+1)) (by rw[s3];simp) (by omega) ?_)))));refine B2.st (by omega) λv3 _ B3=>B3.st (by omega) λv4 _ B4=>B4.st (by omega) λv5 _ B5=>?_;refine B5.rd rfl (arN (m:=P KU (k+1)) (by rw[s4];simp) (by omega) (B5.rd rfl (arN (m:=KZ A*256) (by simp) (by omega) (arN (m:=P KZ (k+1)*256) (by rw[s5,zc];simp) (by omega) (B5.rd rfl (arN (m:=P Kg (k+1)) (by rw[s6,hfr];simp) (by omega) ?_))))));refine B5.st (by omega) λv6 _ B6=>B6.st (by omega) λv7 _ B7=>B7.st (by omega) λv8 _ B8=>?_;exact arN (m:=k+1) (by omega) (by omega) ⟨⟨k+1,rfl,by omega,B8,by omega,by omega,by omega,by omega⟩,by omega⟩
    ·have hkk:k=H.ars.length:=by simp only at hge;omega
     subst hkk;have l5:=hPl (f:=KZ) (λA hA=>Wat (hga A hA)) H.ars.length;have l6:=hPl (f:=Kg) (λA hA=>HT (hga A hA)) H.ars.length;rw[hPe]at l1 l2 l3 l4 l5 l6;rw[hPe,hPe,hPe,hPe,hPe,hPe]at B;exact B.fin λw e=>hR w e ⟨hsum',by omega,by omega,by omega,by omega,by omega,by omega⟩
  ·rintro(todo:List (Int×Bk)) n (x:Bk) w1 w2 J1 ⟨z,B,hn,hin,hz0,hz⟩ hx ho hlt hJ1;have hsb:=B0.s.lt;have hnb:=B0.n.lt;have hz2:=ho.1;have hlm:L.lm<σ.size:=h.liveM.lt;have B2:=B.own ho (.inr ⟨by omega,by omega,by omega⟩);have hl:=hin _ hx;have hdel:=Wc0 sz0 hn hx;have hin':∀y∈todo.filter λy=>!(y.1==n),y∈H.live:=λy hy=>hin y (zH.1 hy).1;have hn':((todo.filter λy=>!(y.1==n)).map (·.1)).Nodup:=hn.sublist (List.filter_sublist.map _);have hrest:=(Ux (f:=λe:Int×Bk=>sz0 e.2) (c:=270000) λe he=>Wgx hi (hin' e he)).1;have hall:=(Ux (l:=H.live) (f:=λe:Int×Bk=>sz0 e.2) (c:=270000) λe he=>Wgx hi he).2;have hst:(H.live.map λe:Int×Bk=>sz0 e.2).sum=VY H.live:=rfl;have hx0:=Wgx hi hl;rw[hst]at hall;obtain⟨rs,hrs⟩:∃rs,((todo.filter λy=>!(y.1==n)).map λe:Int×Bk=>sz0 e.2).sum=rs:=⟨_,rfl⟩;have hdel':(todo.map λe:Int×Bk=>sz0 e.2).sum=sz0 x+rs:=by rw[←hrs];exact hdel
   have hz':z+(todo.map λe:Int×Bk=>sz0 e.2).sum=VY H.live:=hz;rw[hrs]at hrest;have hg:∀y:Int,y+rs=VY H.live->y+((todo.filter λy=>!(y.1==n)).map λe:Int×Bk=>sz0 e.2).sum=VY H.live:=λy hy=>by rw[hrs];exact hy
   refine nw (cs:=[.int .i64 0,.int .i64 0,.int .i64 0,.int .i64 0]) λv2 hzv e2 b2=>b2.s1 (by simp) λv3 o3 b3=>b3.s1 (by simp) λv4 o4 b4=>b4.s1 (by simp) λv5 o5 b5=>b5.s1 (by simp) λv6 o6 b6=>?_;have e6:Ext0 w2 v6:=Ext.fresh (Ext.fresh (Ext.fresh (Ext.fresh e2 o3.ext λi hi=>by omega) o4.ext λi hi=>by omega) o5.ext λi hi=>by omega) o6.ext λi hi=>by omega
   have B6:=B2.fr e6;refine b6.rI rfl (ifD (λhpos=>B6.rd rfl (b6.rI rfl ?_)) λhneg=>?_)
   ·have hs:sz0 x=x.2.1:=by unfold sz0;exact zB hpos
    have hx1:0<=x.2.1/\x.2.1<=270000:=by rw[←hs];exact hx0
    refine ar (by omega) (by omega) (B6.st (by omega) λv7 e7 B7=>hJ1 v7 ?_ ?_ ⟨z+x.2.1,B7,hn',hin',by omega,hg _ (by omega)⟩)
    ·rw[e7.2 _ (by have:=e6.1;omega) (λ(hx:w.size=sb)=>by omega),e6.2 _ (by omega) id]
    ·rw[e7.2 _ (by have:=e6.1;omega) (λ(hx:L.lm=sb)=>by have:=B6.h2;omega),e6.2 _ (by omega) id]
   ·have hs:sz0 x=0:=by unfold sz0;exact zA hneg
    refine hJ1 v6 (e6.2 _ (by omega) id) (e6.2 _ (by omega) id) ⟨z,B6,hn',hin',hz0,hg _ (by omega)⟩
 ·have hS:SpH3 v F L.hs H.sp:=hv.spS;have fin:∀w sb,Ext0 v w->Blk w sb KI->v.size<=sb->St1 (Addr.add ⟨sb,0,none⟩ 0) (.int .i64 0) w λv57=>St1 (Addr.add ⟨sb,0,none⟩ 1) (.int .i64 0) v57 λv58=>St1 (Addr.add ⟨sb,0,none⟩ 2) (.int .i64 0) v58 λv59=>St1 (Addr.add ⟨sb,0,none⟩ 3) (.int .i64 0) v59 λv60=>
   St1 (Addr.add ⟨sb,0,none⟩ 4) (.int .i64 0) v60 λv61=>St1 (Addr.add ⟨sb,0,none⟩ 5) (.int .i64 0) v61 λv62=>St1 (Addr.add ⟨sb,0,none⟩ 6) (.int .i64 0) v62 λv63=>St1 (Addr.add ⟨sb,0,none⟩ 7) (.int .i64 0) v63 λv64=>
   St1 (Addr.add ⟨sb,0,none⟩ 8) (.int .i64 0) v64 λv65=>St1 (Addr.add ⟨sb,0,none⟩ 9) (.int .i64 M) v65 λv66=>St1 (Addr.add ⟨sb,0,none⟩ 10) (.int .i64 D) v66 λv67=>J ⟨sb,0,none⟩ v67:=λw sb ew bw hsb=>by
   have hv1:=hb.lt;refine st11 bw 0 0 0 0 0 0 0 0 0 M D λw' e' b'=>hJ _ w' ⟨sb,rfl,Ext.fresh (e.trans ew) e' (λi (hi:i=sb)=>by omega),e'.blk (ew.blk hb id) (λ(hx:σ.size=sb)=>by omega),b',zD _,by omega,by omega,rfl⟩
  refine⟨λm=>Ext0 v m,Ext.refl _ _,nilP (Blk.rH (c:=.p) (y:=some ⟨L.hs,0,none⟩) hv.hd rfl (nilP (Blk.rH (c:=.p) (y:=some ⟨L.hs,0,none⟩) hv.hd rfl ⟨?_,?_⟩)))⟩
  ·refine Wbb hS ⟨Ext.refl _ _,WaV hS ⟨Ext.refl _ _,?_⟩,?_⟩
   ·rw[hm0,hd0];exact nw (cs:=KI) λw hzw ew bw=>⟨ew,fin w _ ew bw (zD _)⟩
   ·refine nw (cs:=KI) λw hzw ew bw=>⟨ew,WaV (hv.keep0 ew).spS ⟨ew,?_⟩⟩;rw[hm0,hd0];exact fin w _ ew bw (zD _)
  ·refine nw (cs:=KI) λw hzw ew bw=>⟨ew,Wbb (hv.keep0 ew).spS ⟨ew,WaV (hv.keep0 ew).spS ⟨ew,?_⟩⟩⟩;rw[hm0,hd0];exact fin w _ ew bw (zD _)
end Go.Ar
namespace Go.Ar
open Go.Vc (mget mset mdel)
def i63 (x:Int):Bool:=decide (x<=9223372036854775807)
def Gs (H:Hw)(t:Nat):Ph->Bool
 | .take k=>decide (k<H.tb.length)&&(match Qk (H.cls k) ((H.thr t).li k)with
  | (some y,_)=>i63 y
  | (none,_)=>true)
 | .transfer k _=>decide (k<H.tb.length)&&(Zu (H.arn t) (k:Int) != 0 || !(Ye (H.arn t) (k:Int)).isEmpty)
 | .central _ _=>true
 | .grow _ _=>true
 | .fill=>match (H.thr t).hands with
  | (k,x::xs)::_=>decide (k<H.tb.length)&&(i63 x&&decide (((H.thr t).li k).os.length+xs.length<=256))
  | _=>false
 | .large m=>decide (Zt (H.arn t) H.sp (m:Int) 1<=1000000)
 | .find x=>i63 x&&((mget H.live x).isSome&&decide (0<=x))
 | .put k _=>decide (k<H.tb.length) && !(H.thr t).hands.isEmpty
 | .back=>match (H.thr t).hands with
  | (_,xs)::_=>(xs.all λx=>i63 x&&decide (0<=Yd H.ars x))&&decide (xs.length<=1000000)
  | _=>false
 | .give _ a=>decide (0<=a)&&(decide (a.toNat<H.ars.length)&&H.ars.all λA=>A.runs.all λr=>decide (r.1<=1000000))
 | .drain=>true
theorem WdI {x:Int}(h:i63 x=true):I63 x:=by
 unfold i63 at h;unfold I63;exact zAS h
theorem WhS {H:Hw}{t:Nat}{p:Ph}(h:Gs H t p=true):Wd8 H t p:=by
 cases p with
 | take k=>
  simp only[Gs,zF,zN]at h;refine⟨h.1,λy l hy=>?_⟩;have h2:=h.2;rw[hy]at h2;exact WdI h2
 | transfer k w=>
  simp only[Gs,zF,zN,zBH]at h;refine⟨h.1,λh0 he=>?_⟩;rw[h0,he]at h;simp at h
 | central k w=>trivial
 | grow k w=>trivial
 | fill=>
  simp only[Gs]at h;split at h
  ·rename_i k x xs r hh;simp only[zF,zN]at h;exact⟨k,x,xs,r,hh,h.1,WdI h.2.1,h.2.2⟩
  ·cases h
 | large m=>
  simp only[Gs,zN]at h;exact h
 | find x=>
  simp only[Gs,zF,zN]at h;exact⟨WdI h.1,λhn=>by rw[hn]at h;simp at h,λb _=>h.2.2⟩
 | put k x=>
  simp only[Gs,zF,zN]at h;exact⟨h.1,λhe=>by rw[he]at h;simp at h⟩
 | back=>
  simp only[Gs]at h;split at h
  ·rename_i k xs r hh;simp only[zF,zN,zw]at h;exact⟨k,xs,r,hh,λx hx=>⟨WdI (h.1 x hx).1,(h.1 x hx).2⟩,h.2⟩
  ·cases h
 | give s a=>
  simp only[Gs,zF,zN,zw]at h;exact⟨h.1,h.2.1,h.2.2⟩
 | drain=>trivial
def runB:Nat->Hw->Nat->Ph->Option (Hw×Int×Int)
 | 0,_,_,_=>none
 | n+1,H,t,p=>if Gs H t p&&decide ((H.thr t).hands.length<=900)then(match (Wp H t p).2.1 with
  | none=>some (ZX H t p,(Wp H t p).2.2.1,(Wp H t p).2.2.2)
  | some p'=>runB n (ZX H t p) t p')else none
theorem WeS:∀{n:Nat} {H:Hw} {t:Nat} {p:Ph} {r:Hw×Int×Int},runB n H t p=some r->∃m,RunN m H t p r.1 r.2.1 r.2.2
 | 0,_,_,_,_,h=>by simp[runB]at h
 | n+1,H,t,p,r,h=>by
  rw[runB]at h;split at h
  ·rename_i hc;simp only[zF,zN]at hc;have hok:GL H t p:=⟨WhS hc.1,λg hg=>by rw[←UK hg];exact hc.2⟩;split at h
   ·rename_i hn;cases h;exact⟨1,.done hok hn⟩
   ·rename_i p' hs;obtain⟨m,hm⟩:=WeS h;exact⟨m+1,.next hok hs hm⟩
  ·cases h
def Wdw (H:Hw)(thread kind size align addr:Int):Option (Hw×Int×Int):=match QL H thread kind size align addr with
 | .inl e=>if e=0 then none else some (H,0,e)
 | .inr (t,p)=>runB 40 (setPh H t (some p)) t p
theorem We9 {H:Hw}{thread kind size align addr:Int}{r:Hw×Int×Int}(h:Wdw H thread kind size align addr=some r):Gn H thread kind size align addr r.1 r.2.1 r.2.2:=by
 unfold Wdw at h;split at h
 ·rename_i e he;split at h
  ·cases h
  ·rename_i hne;cases h;exact .inl ⟨he,hne,rfl,rfl⟩
 ·rename_i t p he;obtain⟨m,hm⟩:=WeS h;exact .inr ⟨t,p,m,he,hm⟩
def tb8:List Cls:=(UT 8).map YC
def w0:Hw:=KY tb8 ⟨64,1,1,1024,2⟩
def nxt (H:Hw)(kind size addr:Int):Hw×Int×Int:=(Wdw H 0 kind size (if kind=0 then 8 else 0) addr).getD (H,0,99)
theorem WkS {H:Hw}{kind size addr:Int}(h:(nxt H kind size addr).2.2≠99):Gn H 0 kind size (if kind=0 then 8 else 0) addr (nxt H kind size addr).1 (nxt H kind size addr).2.1 (nxt H kind size addr).2.2:=by
 unfold nxt at *;cases hw:Wdw H 0 kind size (if kind=0 then 8 else 0) addr with
 | none=>rw[hw]at h;exact absurd rfl h
 | some r=>exact We9 hw
theorem nxtW {H:Hw}{kind size addr al a e:Int}{N:Hw×Int×Int}(hN:N=nxt H kind size addr)(h:N.2=(a,e))(hne:e≠99)(hal:al=if kind=0 then 8 else 0):Gn H 0 kind size al addr N.1 a e:=by
 have h1:=WkS (H:=H) (kind:=kind) (size:=size) (addr:=addr) (by rw[←hN,h];exact hne);rw[←hN,h,←hal]at h1;exact h1
theorem w0_e:KY ((UT 8).map YC) ⟨(64:Int).toNat,(1:Int).toNat,(1:Int).toNat,(1024:Int).toNat,(2:Int).toNat⟩=w0:=rfl
end Go.Ar
namespace Go.Ar
open Go Go.Vc Go.Proofs
variable {σ u u':Hp}{F:Rg}{L:LayH}{H H':Hw}{N:Nat}
attribute [local irreducible] w0 nxt tb8
theorem Whs (g:Gl σ)(gd:Gd σ){R:Option Addr->Hp->Prop}(hR:∀σ' L N,Ext0 σ σ'->σ.size<=N->N<=σ'.size->HH σ' (λb=>N<=b) L w0->R (some ⟨L.p,0,none⟩) σ'):Xl.c σ R:=by
 refine Xl.o ?_;unfold Xl.v;refine WW.o ?_;unfold WW.v;refine nw (cs:=[.int .i64 8,.int .i64 64,.int .i64 1,.int .i64 1,.int .i64 1024,.int .i64 2]) λv hz e hb=>hb.rI rfl ?_;refine WfA 8 (by decide) (by decide) λs v1 e1 ha=>?_;have hb1:=e1.blk hb id;have e01:=e.trans e1;refine hb1.rI2 rfl (hb1.rI2 rfl (hb1.rI2 rfl (hb1.rI2 rfl (hb1.rI2 rfl ?_))));refine Wkx ha (g.keep0 e01) (gd.keep0 e01) 64 1 1 1024 2 (λhv=>?_) (λ_ hc=>?_) λ_ _ v2 L e2 h2=>?_
 ·have:=Up 8 (by decide) (by decide);rw[show((8:Nat):Int)=8 from rfl]at this;rw[this]at hv;cases hv
 ·exact absurd hc (by decide)
 ·rw[w0_e]at h2;exact ifF rfl (hR v2 L v1.size (e01.trans e2) e01.1 e2.1 h2)
end Go.Ar
namespace Go.Proofs
open Go.Vc
set_option maxRecDepth 100000
def Zp.h:Hn:=.q .o2 (.q (.q .o3 (.c (.q .o2 .l) .l)) (.q (.q (.reg (.seq [.op,.op,.op,.grd false 2 [.op,.op],.op,.grd false 2 [.op,.op],.op,.grd false 2 [.op,.op],.op,.grd false 5 (RI.ops 5)])) (.c (.q .o2 .l) .l)) (.q .o9 (.q (.q .o2 (.c (.q .o9 .l) .l)) (.q .o10 (.q .o10 (.q (.oq 16) .l)))))))
def Zp.v (a:Sl)(b c:Int)(d:Hp)(e:Int->Int->Hp->Prop):Prop:=Y5.c a d λf g=>If (!f) (e 0 2 g) (JnB (λh i=>JnB (λj k=>JnB (λl m=>JnB (λn o=>If n (e 0 1 o) (Zo.c a b c o λp q r=>If (q != 0) (Ar .i64 (b+256) λs=>Ar .i64 (s-1) λt=>Nz 256<|Ar .i64 (t.tdiv 256) λu=>Ar .i64 (u*256) λv=>Ar .i64 (v-b) λw=>e w 0 r) (Ix a.a a.len p 3 λx=>LdI .i64 (x.add 0) r λy=>LdI .i64 (x.add 1) r λz=>LdI .i64 (x.add 2) r λaa=>YB.c y z aa r λab ac ad=>Ix a.a a.len p 3 λae=>LdI .i64 (ae.add 0) ad λaf=>LdI .i64 (ae.add 1) ad λag=>LdI .i64 (ae.add 2) ad λah=>ZE.c af ag ah ad λai aj ak=>Ix a.a a.len p 3 λal=>LdI .i64 (al.add 0) ak λam=>Ar .i64 (am-b) λan=>Ar .i64 (ai+ab) λao=>Ar .i64 (ao-1) λap=>Nz ab<|Ar .i64 (ap.tdiv ab) λaq=>Ar .i64 (an+aq) λar=>e ar 0 ak))) λau=>If l (au true m) (Ar .i64 (c-1) λav=>au ((bits .and .i64 c av) != 0) m)) λaw=>If j (aw true k) (aw (decide (c>256)) k)) λax=>If h (ax true i) (ax (decide (c<1)) i)) λay=>If (b<1) (ay true g) (ay (decide (b>16384)) g))
theorem Zp.o {a b c d e}(f:Zp.v a b c d e):Zp.c a b c d e:=Wa Tryz.func14 (x:=Zp.h) (R0 f)
def Z9.h:Hn:=.q .o2 (.q (.q .o3 (.c (.q .o2 .l) .l)) (.q .o6 .l))
def Z9.v (a:R2)(b:Hp)(c:Option Addr->Int->Hp->Prop):Prop:=ZP.c a b λd e=>If (!d) (c none 1 e) (Nw (.map #[] 0) e λf g=>Nw (.cells #[.pointer a,.map (some f.block),.I 0,.I 0,.I 0,.I 0,.I 0,.I 0] 38 (0,0)) g λh i=>c (some h) 0 i)
theorem Z9.o {a b c}(d:Z9.v a b c):Z9.c a b c:=Wa Tryz.func19 (x:=Z9.h) (R0 d)
def XB.h:Hn:=.q .o2 (.q (.q .o3 (.c (.q .o2 .l) .l)) (.q (.o 13) (.sjn [] (.q .o2 (.c (.q .o3 (.q .o7 .o9)) .l)) (.q .o6 (.q .o4 .l)))))
def XB.v (a:R2)(b c d:Int)(e:Hp)(f:Int->Int->Hp->Prop):Prop:=Xt.c a e λg h=>If (!g) (f 0 5 h) (NilP a λi=>LdP (i.add 0) h λj=>Yu.c j b c d h λk l m=>Jn [] (λn=>NilP a λo=>X3.c a l (some (o.add 5)) n λp=>f k l p) λq=>If (l==0) (XE.c a k m λr=>NilP a λs=>LdM (s.add 1) r λt=>MSet .i64 (.i .i64) t k c r λu=>NilP a λv=>LdI .i64 (v.add 2) u λw=>Ar .i64 (w+c) λx=>NilP a λy=>St1 (y.add 2) (.I x) u λz=>q z) (q m))
theorem XB.o {a b c d e f}(g:XB.v a b c d e f):XB.c a b c d e f:=Wa Tryz.func20 (x:=XB.h) (R0 g)
def Xi.h:Hn:=.q .o1 (.q (.q .o3 (.c (.q .o2 .l) .l)) (.q .o7 (.q (.reg (.held true [47] (.take 0 (.take 1 (.take 2 (.take 3 (.take 4 (.take 5 (.take 6 (.take 7 (.take 10 (.take 11 (.take 12 (.take 13 (.take 14 (.take 15 (.take 16 (.take 17 (.take 18 (.take 19 (.take 20 (.take 21 (.take 22 (.take 23 (.take 24 (.take 25 (.take 26 (.take 27 (.take 28 (.take 29 (.take 30 (.take 31 (.take 32 (.take 33 (.take 34 (.take 35 (.take 36 (.take 37 (.take 38 (.take 39 (.take 40 (.take 41 (.take 42 (.take 43 (.take 44 (.take 45 (.all [(8,.all [(9,.take 46 (.all [(47,.done)]))])]))))))))))))))))))))))))))))))))))))))))))))))) .l)))
def Xi.v (a:R2)(b:Hp)(c:Int->Int->Int->Int->Int->Int->Int->Int->Int->Int->Hp->Prop):Prop:=Nw (.cells #[.I 0,.I 0,.I 0,.I 0,.I 0,.I 0,.I 0,.I 0,.I 0,.I 0] 56 (0,0)) b λd e=>Xt.c a e λf g=>If (!f) (St1 (d.add 0) (.I 0) g λh=>St1 (d.add 1) (.I 0) h λi=>St1 (d.add 2) (.I 0) i λj=>St1 (d.add 3) (.I 0) j λk=>St1 (d.add 4) (.I 0) k λl=>St1 (d.add 5) (.I 0) l λm=>St1 (d.add 6) (.I 0) m λn=>St1 (d.add 7) (.I 0) n λo=>St1 (d.add 8) (.I 0) o λp=>St1 (d.add 9) (.I 0) p λq=>LdI .i64 (d.add 0) q λr=>LdI .i64 (d.add 1) q λs=>LdI .i64 (d.add 2) q λt=>LdI .i64 (d.add 3) q λu=>LdI .i64 (d.add 4) q λv=>LdI .i64 (d.add 5) q λw=>LdI .i64 (d.add 6) q λx=>LdI .i64 (d.add 7) q λy=>LdI .i64 (d.add 8) q λz=>LdI .i64 (d.add 9) q λaa=>c r s t u v w x y z aa q) (NilP a λab=>LdP (ab.add 0) g λac=>Yp.c ac g λad ae af ag ah ai aj ak al am an ao=>Nw (.cells #[.I 0,.I 0,.I 0,.I 0,.I 0,.I 0,.I 0,.I 0,.I 0,.I 0,.I 0] 89 (0,0)) ao λap aq=>St1 (ap.add 0) (.I ad) aq λar=>St1 (ap.add 1) (.I ae) ar λau=>St1 (ap.add 2) (.I af) au λav=>St1 (ap.add 3) (.I ag) av λaw=>St1 (ap.add 4) (.I ah) aw λax=>St1 (ap.add 5) (.I ai) ax λay=>St1 (ap.add 6) (.I aj) ay λaz=>St1 (ap.add 7) (.I ak) az λa0=>St1 (ap.add 8) (.I al) a0 λa1=>St1 (ap.add 9) (.I am) a1 λa2=>St1 (ap.add 10) (.I an) a2 λa3=>Held a3 λa4=>NilP a λa5=>LdH a4 (.i .i64) (a5.add 2) λ(a6:Int)=>NilP a λa7=>LdH a4 .p (a7.add 0) λ(a8:R2)=>LdH a4 (.i .i64) (ap.add 1) λ(a9:Int)=>LdH a4 (.i .i64) (ap.add 2) λ(ba:Int)=>Ar .i64 (a9+ba) λbb=>
 LdH a4 (.i .i64) (ap.add 3) λ(bc:Int)=>Ar .i64 (bb+bc) λbd=>LdH a4 (.i .i64) (ap.add 4) λ(be:Int)=>Ar .i64 (bd+be) λbf=>LdH a4 (.i .i64) (ap.add 5) λ(bg:Int)=>LdH a4 (.i .i64) (ap.add 8) λ(bh:Int)=>Ar .i64 (bh*256) λbi=>NilP a λbj=>LdH a4 (.i .i64) (bj.add 3) λ(bk:Int)=>NilP a λbl=>LdH a4 (.i .i64) (bl.add 4) λ(bm:Int)=>NilP a λbn=>LdH a4 (.i .i64) (bn.add 5) λ(bo:Int)=>NilP a λbp=>LdH a4 (.i .i64) (bp.add 6) λ(bq:Int)=>NilP a λbr=>LdH a4 (.i .i64) (br.add 7) λ(bs:Int)=>YG.c a8 a3 λbt bu=>And (a4 bu) <| WY.c bt ⟨60,#[],#[]⟩ bu λbv bw=>And (a4 bw) <| St1 (d.add 0) (.I a6) bw λbx=>St1 (d.add 1) (.I bv) bx λbz=>St1 (d.add 2) (.I bf) bz λb0=>St1 (d.add 3) (.I bg) b0 λb1=>St1 (d.add 4) (.I bi) b1 λb2=>St1 (d.add 5) (.I bk) b2 λb3=>St1 (d.add 6) (.I bm) b3 λb4=>St1 (d.add 7) (.I bo) b4 λb5=>St1 (d.add 8) (.I bq) b5 λb6=>St1 (d.add 9) (.I bs) b6 λb7=>LdI .i64 (d.add 0) b7 λb8=>LdI .i64 (d.add 1) b7 λb9=>LdI .i64 (d.add 2) b7 λca=>LdI .i64 (d.add 3) b7 λcb=>LdI .i64 (d.add 4) b7 λcc=>LdI .i64 (d.add 5) b7 λcd=>LdI .i64 (d.add 6) b7 λce=>LdI .i64 (d.add 7) b7 λcf=>LdI .i64 (d.add 8) b7 λcg=>LdI .i64 (d.add 9) b7 λch=>c b8 b9 ca cb cc cd ce cf cg ch b7)
theorem Xi.o {a b c}(d:Xi.v a b c):Xi.c a b c:=Wa Tryz.func24 (x:=Xi.h) (R0 d)
def X0.h:Hn:=.q .o1 (.q (.q .o3 (.c (.q .o1 .l) .l)) (.q .o6 (.q .o2 (.q (.q .o7 (.k (.loop [(29,.I)] (.q .o1 (.q (.c .l .l) (.q (.k (.q .o4 (.q .o6 (.q .o4 (.q .o5 (.q .o7 (.q (.reg (.tail 11 (RI.ops 11) [.op])) .o5))))))) .o2)))))) (.q .o1 (.q (.q .o1 (.k (.loop [(8,.one .s),(9,.I)] (.q (.q .o4 (.c .l .l)) (.q (.k (.q .o9 (.q (.q .o2 (.c .l .l)) (.sjn [] (.q .o2 (.c (.q .o10 (.reg (.held true [13,15] (.take 0 (.take 1 (.take 2 (.take 3 (.take 4 (.take 5 (.take 6 (.take 7 (.take 8 (.take 9 (.take 10 (.take 11 (.take 12 (.all [(13,.take 14 (.all [(15,.done)]))]))))))))))))))))) .l)) .o5)))) .o3))))) (.q .o2 .l)))))))
def X0.v (a:R2)(b:Hp)(c:Sl->Hp->Prop):Prop:=Xt.c a b λd e=>If (!d) (c ⟨none,0,0⟩ e) (NilP a λf=>LdP (f.add 0) e λg=>Ym.c g e λh i=>Nw (.map #[] 0) i λj k=>NilP a λl=>LdP (l.add 0) k λm=>YG.c m k λn o=>XL [(.i .i64)] (λp=>p 0 o) λq (r:Int) s=>If (r<((n.len:Nat):Int)) (Ix n.a n.len r 4 λt=>LdI .i64 (t.add 0) s λu=>LdI .i64 (t.add 1) s λv=>LdI .i64 (t.add 2) s λw=>LdI .i64 (t.add 3) s λx=>Nw (.cells #[.I 0,.I 0,.I 0,.I 0] 76 (0,0)) s λy z=>St1 (y.add 0) (.I u) z λaa=>St1 (y.add 1) (.I v) aa λab=>St1 (y.add 2) (.I w) ab λac=>St1 (y.add 3) (.I x) ac λad=>LdI .i64 (y.add 2) ad λae=>Lk .i64 (.ag 6) (some j.block) ae ad λaf=>Nw (.cells #[.I 0,.I 0,.I 0,.I 0,.I 0,.I 0] 80 (0,0)) ad λag ah=>St1 (ag.add 0) (.I ((af.getD (0,0,0,0,0,0)).1)) ah λai=>St1 (ag.add 1) (.I ((af.getD (0,0,0,0,0,0)).2.1)) ai λaj=>St1 (ag.add 2) (.I ((af.getD (0,0,0,0,0,0)).2.2.1)) aj λak=>St1 (ag.add 3) (.I ((af.getD (0,0,0,0,0,0)).2.2.2.1)) ak λal=>St1 (ag.add 4) (.I ((af.getD (0,0,0,0,0,0)).2.2.2.2.1)) al λam=>St1 (ag.add 5) (.I ((af.getD (0,0,0,0,0,0)).2.2.2.2.2)) am λan=>LdI .i64 (y.add 2) an λao=>St1 (ag.add 0) (.I ao) an λap=>LdI .i64 (ag.add 2) ap λaq=>Ar .i64 (aq+1) λar=>St1 (ag.add 2) (.I ar) ap λau=>LdI .i64 (ag.add 3) au λav=>LdI .i64 (y.add 1) au λaw=>Ar .i64 (av+aw) λax=>St1 (ag.add 3) (.I ax) au λay=>LdI .i64 (ag.add 4) ay λaz=>NilP a λa0=>LdM (a0.add 1) ay λa1=>LdI .i64 (y.add 0) ay λa2=>Lk .i64 (.i .i64) a1 a2 ay λa3=>Ar .i64 (az+(a3.getD 0)) λa4=>
 St1 (ag.add 4) (.I a4) ay λa5=>LdI .i64 (y.add 2) a5 λa6=>LdI .i64 (ag.add 0) a5 λa7=>LdI .i64 (ag.add 1) a5 λa8=>LdI .i64 (ag.add 2) a5 λa9=>LdI .i64 (ag.add 3) a5 λba=>LdI .i64 (ag.add 4) a5 λbb=>LdI .i64 (ag.add 5) a5 λbc=>MSet .i64 (.ag 6) (some j.block) a6 (a7,a8,a9,ba,bb,bc) a5 λbd=>Ar .i64 (r+1) λbe=>q be bd) (XL [.s,(.i .i64)] (λbf=>bf ⟨none,0,0⟩ (-1) s) λbg (bh:Sl) (bi:Int) bj=>If (bi<((h.len:Nat):Int)) (Lk .i64 (.ag 6) (some j.block) bi bj λbk=>Nw (.cells #[.I 0,.I 0,.I 0,.I 0,.I 0,.I 0] 80 (0,0)) bj λbl bm=>St1 (bl.add 0) (.I ((bk.getD (0,0,0,0,0,0)).1)) bm λbn=>St1 (bl.add 1) (.I ((bk.getD (0,0,0,0,0,0)).2.1)) bn λbo=>St1 (bl.add 2) (.I ((bk.getD (0,0,0,0,0,0)).2.2.1)) bo λbp=>St1 (bl.add 3) (.I ((bk.getD (0,0,0,0,0,0)).2.2.2.1)) bp λbq=>St1 (bl.add 4) (.I ((bk.getD (0,0,0,0,0,0)).2.2.2.2.1)) bq λbr=>St1 (bl.add 5) (.I ((bk.getD (0,0,0,0,0,0)).2.2.2.2.2)) br λbs=>If (!bk.isSome) (Ar .i64 (bi+1) λbt=>bg bh bt bs) (Jn [] (λbu=>LdI .i64 (bl.add 0) bu λbv=>LdI .i64 (bl.add 1) bu λbw=>LdI .i64 (bl.add 2) bu λbx=>LdI .i64 (bl.add 3) bu λbz=>LdI .i64 (bl.add 4) bu λb0=>LdI .i64 (bl.add 5) bu λb1=>Nw (.cells #[.I bv,.I bw,.I bx,.I bz,.I b0,.I b1] 80 (0,0)) bu λb2 b3=>App bh 6 48 80 [.I 0,.I 0,.I 0,.I 0,.I 0,.I 0] ⟨some b2,1,1⟩ b3 λb4 b5=>Ar .i64 (bi+1) λb6=>bg b4 b6 b5) λb7=>If (bi≥0) (Ix h.a h.len bi 3 λb8=>LdI .i64 (b8.add 0) bs λb9=>LdI .i64 (b8.add 1) bs λca=>LdI .i64 (b8.add 2) bs λcb=>YB.c b9 ca cb bs λcc cd ce=>Held ce λcf=>
 Ix h.a h.len bi 3 λcg=>LdH cf (.i .i64) (cg.add 0) λ(ch:Int)=>LdH cf (.i .i64) (bl.add 2) λ(ci:Int)=>Ar .i64 (ci+cc) λcj=>Ar .i64 (cj-1) λck=>Nz cc<|Ar .i64 (ck.tdiv cc) λcl=>St1 (bl.add 1) (.I ch) ce λcm=>St1 (bl.add 5) (.I cl) cm λcn=>b7 cn) (b7 bs))) (c bh bj)))
theorem X0.o {a b c}(d:X0.v a b c):X0.c a b c:=Wa Tryz.func25 (x:=X0.h) (R0 d)
def ZP.h:Hn:=.q .o1 (.q (.reg (.seq [.op,.op,.op,.grd true 4 (RI.ops 4),.op])) .l)
def ZP.v (a:R2)(b:Hp)(c:Bool->Hp->Prop):Prop:=JnB (λd e=>c d e) λf=>If (!a.isNone) (Yv.c a b λg h i j k l=>f (decide (g>0)) l) (f false b)
theorem ZP.o {a b c}(d:ZP.v a b c):ZP.c a b c:=Wa Tryz.func50 (x:=ZP.h) (R0 d)
def Xt.h:Hn:=.q .o1 (.q (.reg (.seq [.op,.op,.op,.grd true 5 (RI.ops 5),.op])) .l)
def Xt.v (a:R2)(b:Hp)(c:Bool->Hp->Prop):Prop:=JnB (λd e=>c d e) λf=>If (!a.isNone) (NilP a λg=>LdP (g.add 0) b λh=>f (!h.isNone) b) (f false b)
theorem Xt.o {a b c}(d:Xt.v a b c):Xt.c a b c:=Wa Tryz.func51 (x:=Xt.h) (R0 d)
def XE.h:Hn:=.q (.reg (.tail 13 (RI.ops 13) [.op])) .o6
def XE.v (a:R2)(b:Int)(c:Hp)(d:Hp->Prop):Prop:=NilP a λe=>LdI .i64 (e.add 2) c λf=>NilP a λg=>LdM (g.add 1) c λh=>Lk .i64 (.i .i64) h b c λi=>Ar .i64 (f-(i.getD 0)) λj=>NilP a λk=>St1 (k.add 2) (.I j) c λl=>NilP a λm=>LdM (m.add 1) l λn=>MDel .i64 (.i .i64) n b l λo=>d o
theorem XE.o {a b c d}(e:XE.v a b c d):XE.c a b c d:=Wa Tryz.func53 (x:=XE.h) (R0 e)
def X3.h:Hn:=.sjn [] (.q .o2 (.c .o6 .o8)) (.q (.reg (.tail 12 (RI.ops 12) [.op])) (.reg (.held true [15] (.take 0 (.take 1 (.take 2 (.take 3 (.take 4 (.take 5 (.take 6 (.take 7 (.take 8 (.all [(9,.take 10 (.take 11 (.take 12 (.take 13 (.take 14 (.all [(15,.done)]))))))])))))))))))))
def X3.v (a:R2)(b:Int)(c:R2)(d:Hp)(e:Hp->Prop):Prop:=Jn [] (λf=>NilP a λg=>LdI .i64 (g.add 3) f λh=>NilP a λi=>LdI .i64 (i.add 2) f λj=>NilP a λk=>St1 (k.add 3) (.I (if j>h then j else h)) f λl=>Held l λm=>NilP a λn=>LdH m (.i .i64) (n.add 4) λ(o:Int)=>NilP a λp=>LdH m .p (p.add 0) λ(q:R2)=>Yp.c q l λr s t u v w x y z aa ab ac=>And (m ac) <| Ar .i64 (ab*256) λad=>NilP a λae=>St1 (ae.add 4) (.I (if ad>o then ad else o)) ac λaf=>e af) λag=>If (b==0) (NilP c λah=>LdI .i64 ah d λai=>Ar .i64 (ai+1) λaj=>NilP c λak=>St1 ak (.I aj) d λal=>ag al) (NilP a λam=>LdI .i64 (am.add 7) d λan=>Ar .i64 (an+1) λao=>NilP a λap=>St1 (ap.add 7) (.I ao) d λaq=>ag aq)
theorem X3.o {a b c d e}(f:X3.v a b c d e):X3.c a b c d e:=Wa Tryz.func54 (x:=X3.h) (R0 f)
def WY.h:Hn:=.q .o1 (.q .o1 (.q (.q .o3 (.k (.loop [(5,.I),(10,.I)] (.q .o1 (.q (.c .l .l) (.q (.k (.q .o4 .o6)) .o2)))))) (.q .o2 .l)))
def WY.v (a:Sl)(b:Fv)(c:Hp)(d:Int->Hp->Prop):Prop:=XL [(.i .i64),(.i .i64)] (λe=>e 0 0 c) λf (g:Int) (h:Int) i=>If (h<((a.len:Nat):Int)) (Ix a.a a.len h 4 λj=>LdI .i64 (j.add 0) i λk=>LdI .i64 (j.add 1) i λl=>LdI .i64 (j.add 2) i λm=>LdI .i64 (j.add 3) i λn=>Nw (.cells #[.I 0,.I 0,.I 0,.I 0] 76 (0,0)) i λo p=>St1 (o.add 0) (.I k) p λq=>St1 (o.add 1) (.I l) q λr=>St1 (o.add 2) (.I m) r λs=>St1 (o.add 3) (.I n) s λt=>LdI .i64 (o.add 0) t λu=>LdI .i64 (o.add 1) t λv=>LdI .i64 (o.add 2) t λw=>LdI .i64 (o.add 3) t λx=>VC Tryz.prog b [.agg #[.I u,.I v,.I w,.I x]] [.I] t λy z=>Ar .i64 (g+y) λaa=>Ar .i64 (h+1) λab=>f aa ab z) (d g i)
theorem WY.o {a b c d}(e:WY.v a b c d):WY.c a b c d:=Wa Tryz.func59 (x:=WY.h) (R0 e)
def Xp.h:Hn:=.q .o2 (.q .o3 .l)
def Xp.v (a b c d:Int)(e:Hp)(f:Int->Hp->Prop):Prop:=Nw (.cells #[.I a,.I b,.I c,.I d] 76 (0,0)) e λg h=>LdI .i64 (g.add 1) h λi=>f i h
theorem Xp.o {a b c d e f}(g:Xp.v a b c d e f):Xp.c a b c d e f:=Wa Tryz.func60 (x:=Xp.h) (R0 g)
end Go.Proofs
namespace Go.Ar
open Go Go.Vc Go.Proofs
open Go.Vc (mget mset mdel)
open Go.Bu (cnt)
variable {σ σ0 v w w':Hp}{F P Q X T:Rg}{L:LayH}{H H':Hw}{held:List Pc}{s0:Sp}{t n:Nat}{g:Th}{mb am m:Nat}
structure Me where
 asked:List (Int×Int)
 sum:Int
 peak:Int
 dirty:Int
 mallocs:Nat
 frees:Nat
 fails:Nat
def Me.calls (x:Me):Nat:=x.mallocs+x.frees+x.fails
structure MeI (x:Me):Prop where
 v:∀y∈x.asked,0<=y.2/\y.2<=16384
 l:x.asked.length<=x.mallocs
 s:x.sum=(x.asked.map (·.2)).sum
 p:0<=x.peak/\x.peak<=16384000
 d:0<=x.dirty/\x.dirty<=1000000
 c:x.calls<=900
def me0:Me:=⟨[],0,0,0,0,0,0⟩
theorem WkB:MeI me0:=⟨by simp[me0],by simp[me0],rfl,by simp[me0],by simp[me0],by simp[me0,Me.calls]⟩
def Me.forget (x:Me)(a:Int):Me:={x with asked:=mdel x.asked a,sum:=x.sum-(mget x.asked a).getD 0}
def Me.add (x:Me)(a size:Int):Me:={x with asked:=mset x.asked a size,sum:=x.sum+size}
def Me.count (x:Me)(e:Int)(mal:Bool):Me:=if e=0 then(if mal then{x with mallocs:=x.mallocs+1}else{x with frees:=x.frees+1})else{x with fails:=x.fails+1}
def Me.tops (x:Me)(D:Int):Me:={x with peak:=if x.sum>x.peak then x.sum else x.peak,dirty:=if D*256>x.dirty then D*256 else x.dirty}
theorem MeI.sum_le {x:Me}(h:MeI x):0<=x.sum/\x.sum<=14745600:=by
 have h1:=Ux (l:=x.asked) (f:=λy:Int×Int=>y.2) (c:=16384) h.v;have h2:=h.l;have h3:=h.c;unfold Me.calls at h3;rw[h.s];exact⟨h1.1,by have:=h1.2;omega⟩
def meV (hp am:Nat)(x:Me):List Value:=[.pointer (some ⟨hp,0,none⟩),.map (some am),.int .i64 x.sum,.int .i64 x.peak,.int .i64 x.dirty,.int .i64 (x.mallocs:Int),.int .i64 (x.frees:Int),.int .i64 (x.fails:Int)]
structure MP (σ0 σ:Hp) (L:LayH) (H:Hw) (held:List Pc) (s0:Sp) (P:Rg) (mb am:Nat) (x:Me):Prop where
 e:Ext0 σ0 σ
 h:HH σ P L H
 hi:HI H held s0
 cf:CfOk H
 ph:∀g∈H.ths,g.ph=none
 pg:H.cf.pages<=128
 pP:∀b,P b->σ0.size<=b/\b<σ.size
 mb1:σ0.size<=mb/\¬P mb
 am1:σ0.size<=am/\¬P am
 ne:mb≠am
 b:Blk σ mb (meV L.p am x)
 m:MapL σ am .i64 (.i .i64) x.asked
 g0:Off (λb=>σ0.size<=b)/\¬σ0.size<=1
variable {x y:Me}
theorem MP.fr (p:MP σ0 σ L H held s0 P mb am x)(e:Ext0 σ w):MP σ0 w L H held s0 P mb am x:=
 ⟨p.e.trans e,p.h.keep0 e,p.hi,p.cf,p.ph,p.pg,λb hb=>⟨(p.pP b hb).1,by have:=(p.pP b hb).2;have:=e.1;omega⟩,p.mb1,p.am1,p.ne,e.blk p.b id,e.mapL p.m id,p.g0⟩
theorem MP.out (p:MP σ0 σ L H held s0 P mb am x)(e:Ext T σ w)(hT:∀b,b<σ.size->T b->¬P b/\b≠mb/\b≠am/\σ0.size<=b):MP σ0 w L H held s0 P mb am x:=by
 have hz:=e.1;have hb:=p.b.lt;have hm:=p.m.lt;have e':Ext (λb=>T b/\b<σ.size) σ w:=⟨e.1,λb hb hf=>e.2 b hb λht=>hf ⟨ht,hb⟩⟩;refine⟨Ext.newT p.e e' λb hb=>.inr (hT b hb.2 hb.1).2.2.2,p.h.keep e' (λb hb hp ht=>(hT b hb ht.1).1 hp) (λb hb=>?_) (λhb=>?_),p.hi,p.cf,p.ph,p.pg,λb hb=>⟨(p.pP b hb).1,by have:=(p.pP b hb).2;omega⟩,p.mb1,p.am1,p.ne,e.blk p.b λht=>(hT mb hb ht).2.1 rfl,e.mapL p.m λht=>(hT am hm ht).2.2.1 rfl,p.g0⟩
 ·exact p.g0.1 b (hT b hb.2 hb.1).2.2.2
 ·exact p.g0.2 (hT _ hb.2 hb.1).2.2.2
theorem MP.step (p:MP σ0 σ L H held s0 P mb am x){ts':List LayT}(e:Ext P σ w)(h':HH w (Grow P σ) {L with ts:=ts'} H'){held':List Pc}{s0':Sp}(hi':HI H' held' s0')(k:ZW H' H)(ph':∀g∈H'.ths,g.ph=none) :
 MP σ0 w {L with ts:=ts'} H' held' s0' (Cut (Grow P σ) w) mb am x:=by
 have hz:=e.1;have hb:=p.b.lt;have hm:=p.m.lt;have hn:∀b,b<σ.size->¬P b->¬Cut (Grow P σ) w b:=λb h1 h2 hx=>by
  rcases hx.1 with h3|h3
  ·exact h2 h3
  ·omega
 refine⟨Ext.newT p.e e λb hb=>.inr (p.pP b hb).1,h'.cut,hi',p.cf.keep k,ph',by rw[k.2.1];exact p.pg,λb hb=>⟨?_,hb.2⟩,⟨p.mb1.1,hn mb hb p.mb1.2⟩,⟨p.am1.1,hn am hm p.am1.2⟩,p.ne,e.blk p.b p.mb1.2,e.mapL p.m p.am1.2,p.g0⟩;have:=p.e.1;rcases hb.1 with h1|h1
 ·exact(p.pP b h1).1
 ·omega
theorem MP.upd (p:MP σ0 σ L H held s0 P mb am x)(e:Ext (λb=>b=mb\/b=am) σ w)(hb:Blk w mb (meV L.p am y))(hm:MapL w am .i64 (.i .i64) y.asked):MP σ0 w L H held s0 P mb am y:=by
 have hz:=e.1;have h1:∀b,(b=mb\/b=am)->σ0.size<=b/\¬P b:=λb hb=>by
  rcases hb with rfl|rfl
  ·exact p.mb1
  ·exact p.am1
 exact⟨Ext.newT p.e e λb hb=>.inr (h1 b hb).1,p.h.keep e (λb _ hp ht=>(h1 b ht).2 hp) (λb hb=>p.g0.1 b (h1 b hb).1) (λhb=>p.g0.2 (h1 _ hb).1),p.hi,p.cf,p.ph,p.pg,λb hb=>⟨(p.pP b hb).1,by have:=(p.pP b hb).2;omega⟩,p.mb1,p.am1,p.ne,hb,hm,p.g0⟩
theorem MP.st (p:MP σ0 σ L H held s0 P mb am x){i:Nat}{u:Value}(hi:i<8)(y:Me)(he:(meV L.p am x).set i u=meV L.p am y)(ha:y.asked=x.asked){K:Hp->Prop}(hK:∀w,Ext (λb=>b=mb\/b=am) σ w->MP σ0 w L H held s0 P mb am y->K w):St1 (Addr.add ⟨mb,0,none⟩ i) u σ K:=by
 refine p.b.s1 (by simp[meV];omega) λw o b=>?_;have e:Ext (λb=>b=mb\/b=am) σ w:=o.ext.sub λb hb=>.inl hb;rw[zG,he]at b;exact hK w e (p.upd e b (by rw[ha];exact o.ext.mapL p.m λ(hx:am=mb)=>p.ne hx.symm))
theorem MP.hands (p:MP σ0 σ L H held s0 P mb am x):∀g∈H.ths,g.hands=[]:=λg hg=>by
 have h1:=(p.hi.th g hg).ph;unfold PhI at h1;rw[p.ph g hg]at h1;exact h1
theorem Was (p:MP σ0 σ L H held s0 P mb am x){R:Bool->Hp->Prop}(hR:R true σ):Xt.c (some ⟨mb,0,none⟩) σ R:=by
 refine Xt.o ?_;unfold Xt.v;exact JnB.intro (ifT rfl (nilP (p.b.rP rfl hR)))
theorem WgK (p:MP σ0 σ L H held s0 P mb am x)(mi:MeI x)(a:Int){R:Hp->Prop}(hR:∀w,Ext (λb=>b=mb\/b=am) σ w->MP σ0 w L H held s0 P mb am (x.forget a)->R w):XE.c (some ⟨mb,0,none⟩) a σ R:=by
 refine XE.o ?_;unfold XE.v;have hs:=mi.sum_le;have hv:0<=(mget x.asked a).getD 0/\(mget x.asked a).getD 0<=16384:=by
  cases hm:mget x.asked a with
  | none=>exact⟨zCN _,by decide⟩
  | some z=>exact mi.v _ (KF hm)
 refine nilP (p.b.rI rfl (nilP (p.b.rM rfl ⟨x.asked,p.m,ar (by omega) (by omega) (nilP ?_)⟩)));refine p.st (by omega) {x with sum:=x.sum-(mget x.asked a).getD 0} rfl rfl λw1 e1 p1=>nilP (p1.b.rM rfl ⟨x.asked,p1.m,λw2 o2 _ m2=>?_⟩);have o2:=o2 am rfl;have e2:Ext (λb=>b=mb\/b=am) w1 w2:=o2.ext.sub λb hb=>.inr hb;exact hR w2 (e1.trans e2) (p1.upd e2 (o2.ext.blk p1.b λ(hx:mb=am)=>p.ne hx) m2)
set_option maxRecDepth 8000 in
theorem Wii (p:MP σ0 σ L H held s0 P mb am x)(hc:x.calls<=899)(e:Int)(mal:Bool){R:Hp->Prop}(hR:∀w,Ext (λb=>b=mb\/b=am) σ w->MP σ0 w L H held s0 P mb am ((x.count e mal).tops (H.sp.st.count 2:Nat))->R w) :
 X3.c (some ⟨mb,0,none⟩) e (some (Addr.add ⟨mb,0,none⟩ (if mal then 5 else 6))) σ R:=by
 refine X3.o ?_;unfold X3.v;unfold Me.calls at hc;refine Wa2 (λw=>Ext (λb=>b=mb\/b=am) σ w/\MP σ0 w L H held s0 P mb am (x.count e mal)) (λw ⟨e1,p1⟩=>?_) λJ hJ=>?_
 ·generalize hy:x.count e mal=y at p1;have hys:y.sum=x.sum/\y.peak=x.peak/\y.dirty=x.dirty:=by subst hy;unfold Me.count;split<;>(try split)<;>exact⟨rfl,rfl,rfl⟩
  refine nilP (p1.b.rI rfl (nilP (p1.b.rI rfl (nilP (p1.st (by omega) {y with peak:=if y.sum>y.peak then y.sum else y.peak} rfl rfl λw2 e2 p2=>?_)))))
  refine⟨λm=>Ext0 w2 m,Ext.refl _ _,nilP (Blk.rH (c:=.i .i64) (y:=y.dirty) p2.b rfl (nilP (Blk.rH (c:=.p) (y:=some ⟨L.p,0,none⟩) p2.b rfl (Wbm p2.h p2.hi p2.hands λw3 e3 _=>⟨e3,?_⟩))))⟩;have p3:=p2.fr e3;have hct:H.sp.st.count 2<=128:=by
   have h1:=zGA (a:=2) (l:=H.sp.st);have h2:=p.hi.sl;have h3:=p.pg;omega
  refine ar (by omega) (by omega) (nilP (p3.st (by omega) (y.tops (H.sp.st.count 2:Nat)) rfl rfl λw4 e4 p4=>?_));exact hR w4 (((e1.trans e2).trans (Ext0.to e3)).trans e4) (by rw[hy];exact p4)
 ·refine ifD (λh0=>?_) λh0=>?_
  ·have h0':e=0:=by simpa using h0
   subst h0';cases mal with
   | true=>exact nilP (p.b.rI rfl (arN (m:=x.mallocs+1) (by simp) (by omega) (nilP (p.st (i:=5) (by omega) {x with mallocs:=x.mallocs+1} rfl rfl λw1 e1 p1=>hJ w1 ⟨e1,p1⟩))))
   | false=>exact nilP (p.b.rI rfl (arN (m:=x.frees+1) (by simp) (by omega) (nilP (p.st (i:=6) (by omega) {x with frees:=x.frees+1} rfl rfl λw1 e1 p1=>hJ w1 ⟨e1,p1⟩))))
  ·have h0':e≠0:=by simpa using h0
   refine nilP (p.b.rI rfl (arN (m:=x.fails+1) (by simp) (by omega) (nilP (p.st (by omega) {x with fails:=x.fails+1} rfl rfl λw1 e1 p1=>hJ w1 ⟨e1,?_⟩))));have:x.count e mal = {x with fails:=x.fails+1}:=by unfold Me.count;exact zA h0'
   rw[this];exact p1
theorem OpOk.rest (o:OpOk H H')(h:∀g∈H.ths,g.ph=none):∀g∈H'.ths,g.ph=none:=λg hg=>by
 obtain⟨j,hj⟩:=zL hg;have h1:=o.ph j;unfold phAt at h1;rw[hj]at h1;simp only[zEU]at h1;rw[h1];cases hk:H.ths[j]? with
 | none=>rfl
 | some g'=>exact h g' (zE hk)
def Me.mal (x:Me)(a size e:Int)(D:Nat):Me:=((if e=0 then(x.forget a).add a size else x).count e true).tops (D:Int)
def Md (P:Rg)(mb am:Nat):Rg:=λb=>P b\/b=mb\/b=am
set_option maxRecDepth 8000 in
theorem Wei (p:MP σ0 σ L H held s0 P mb am x)(mi:MeI x)(hc:x.calls<=899)(thread size align:Int){R:Int->Int->Hp->Prop}
 (hR:∀a e w ts H' held' s0' P',Ext (Md P mb am) σ w->MP σ0 w {L with ts:=ts} H' held' s0' P' mb am (x.mal a size e (H'.sp.st.count 2))->(∀b,P' b->P b\/σ.size<=b)->ZW H' H->MalE H size align H' a e->Gn H thread 0 size align 0 H' a e->R a e w) :
 XB.c (some ⟨mb,0,none⟩) thread size align σ R:=by
 refine XB.o ?_;unfold XB.v;refine Was p (ifF rfl (nilP (p.b.rP rfl ?_)));obtain⟨H',a,er,hw,o,me⟩:=We1 p.hi thread size align;refine Wej WlC p.h p.cf.2.2 hw λv1 ts1 e1 h1=>?_;obtain⟨held',s0',hi'⟩:=o.hi;have p1:=p.step e1 h1 hi' o.kp (o.rest p.ph);have hin:∀b,Cut (Grow P σ) v1 b->P b\/σ.size<=b:=λb hb=>hb.1;have e1':Ext (Md P mb am) σ v1:=e1.sub λb hb=>.inl hb;have up:∀{u u':Hp},Ext (λb=>b=mb\/b=am) u u'->Ext (Md P mb am) u u':=λe=>e.sub λb hb=>.inr hb;refine Wa2 (λw=>Ext (Md P mb am) σ w/\MP σ0 w {L with ts:=ts1} H' held' s0' (Cut (Grow P σ) v1) mb am (if er=0 then(x.forget a).add a size else x)) (λw ⟨e2,p2⟩=>?_) λJ hJ=>?_
 ·refine nilP (Wii p2 ?_ er true λw3 e3 p3=>hR a er w3 ts1 H' held' s0' _ (e2.trans (up e3)) p3 hin o.kp me hw);split<;>exact hc
 ·refine ifD (λh0=>?_) λh0=>?_
  ·have h0':er=0:=by simpa using h0
   have hsz:1<=size/\size<=16384:=by
    rcases me with⟨h1,_⟩|⟨_,_,h2,_⟩
    ·exact absurd h0' h1
    ·exact⟨h2.1,h2.2.1⟩
   rw[zB h0']at hJ;have hs:=mi.sum_le;have hv:0<=(mget x.asked a).getD 0/\(mget x.asked a).getD 0<=16384:=by
    cases hm:mget x.asked a with
    | none=>exact⟨zCN _,by decide⟩
    | some z=>exact mi.v _ (KF hm)
   refine WgK p1 mi a λw2 e2 p2=>nilP (p2.b.rM rfl ⟨am,_,rfl,p2.m,λw3 o3 m3=>?_⟩);have e3:Ext (λb=>b=mb\/b=am) w2 w3:=o3.ext.sub λb hb=>.inr hb;have p3:MP σ0 w3 {L with ts:=ts1} H' held' s0' (Cut (Grow P σ) v1) mb am ⟨mset (mdel x.asked a) a size,x.sum-(mget x.asked a).getD 0,x.peak,x.dirty,x.mallocs,x.frees,x.fails⟩:=p2.upd e3 (o3.ext.blk p2.b λ(hx:mb=am)=>p.ne hx) m3;have hfs:(x.forget a).sum=x.sum-(mget x.asked a).getD 0:=rfl;refine nilP (p3.b.rI rfl (ar (by simp only;omega) (by simp only;omega) (nilP (p3.st (by omega) ((x.forget a).add a size) rfl rfl λw4 e4 p4=>hJ w4 ⟨((e1'.trans (up e2)).trans (up e3)).trans (up e4),p4⟩))))
  ·have h0':er≠0:=by simpa using h0
   rw[zA h0']at hJ;exact hJ v1 ⟨e1',p1⟩
end Go.Ar
namespace Go.Ar
open Go Go.Vc Go.Proofs
open Go.Vc (mget mset mdel)
open Go.Bu (cnt)
variable {σ σ0 v w w':Hp}{F P Q X T:Rg}{L:LayH}{H H':Hw}{held:List Pc}{s0:Sp}{t n:Nat}{g:Th}{mb am m:Nat}{x y:Me}
theorem Whg {s:Sl}{bs:List Bk}(hs:SlR s 4 (bksV bs) σ F)(hl:bs.length<=1000000)(hb:∀b∈bs,0<=b.2.1/\b.2.1<=270000){R:Int->Hp->Prop}(hR:∀σ',Ext0 σ σ'->R ((bs.map λb=>b.2.1).sum) σ') :
 WY.c s ⟨60,#[],#[]⟩ σ R:=by
 refine WY.o ?_;unfold WY.v;have hsl:s.len=bs.length:=by have:=hs.1;rw[U1]at this;omega
 refine Ks (a:=.i .i64) (bb:=.i .i64) (λ(sum i:Int) w=>∃k:Nat,i=k/\k<=bs.length/\Ext0 σ w/\sum=((bs.take k).map λb=>b.2.1).sum) (λ_ i _=>bs.length-i.toNat) ⟨0,rfl,by omega,Ext.refl _ _,by simp⟩ ?_;rintro(sum:Int) (i:Int) w ⟨k,rfl,hk,e,rfl⟩;refine ifD (λhlt=>?_) λhge=>?_
 ·have hk':k<bs.length:=by omega
  have hg:bs[k]?=some bs[k]:=gGe _;generalize bs[k]=b at hg;have hb1:=hb b (zE hg);have hsum:=Ux (l:=bs.take k) (f:=λb:Bk=>b.2.1) (c:=270000) λb h=>hb b (zBS h);have hlk:(bs.take k).length=k:=by rw[zY];omega
  rw[hlk]at hsum;have hnext:((bs.take (k+1)).map λb:Bk=>b.2.1).sum=((bs.take k).map λb:Bk=>b.2.1).sum+b.2.1:=by rw[zr,hg];simp
  refine WkP ((SlR.loc _ _ _).keep0 ((SlR.loc _ _ _).cut hs) e) hg λbb o hc=>ldI0 (hc 0 _ rfl) (ldI0 (hc 1 _ rfl) (ldI0 (hc 2 _ rfl) (ldI0 (hc 3 _ rfl) ?_)));refine nw (cs:=[.int .i64 0,.int .i64 0,.int .i64 0,.int .i64 0]) λv2 hz2 e2 b2=>b2.s1 (by simp) λv3 o3 b3=>b3.s1 (by simp) λv4 o4 b4=>b4.s1 (by simp) λv5 o5 b5=>b5.s1 (by simp) λv6 o6 b6=>?_;have e6:Ext0 w v6:=Ext.fresh (Ext.fresh (Ext.fresh (Ext.fresh e2 o3.ext λi hi=>by omega) o4.ext λi hi=>by omega) o5.ext λi hi=>by omega) o6.ext λi hi=>by omega
  refine b6.rI rfl (b6.rI rfl (b6.rI rfl (b6.rI rfl ?_)));refine WaN (all := #[.agg #[.int .i64 b.1,.int .i64 b.2.1,.int .i64 b.2.2.1,.int .i64 b.2.2.2]]) (by kernel_rfl) (by simp) ?_;refine Xp.o ?_;unfold Xp.v;refine nw (cs:=[.int .i64 b.1,.int .i64 b.2.1,.int .i64 b.2.2.1,.int .i64 b.2.2.2]) λv7 hz7 e7 b7=>b7.rI rfl (ar (by omega) (by omega) (arN (m:=k+1) (by omega) (by omega) ⟨⟨k+1,rfl,by omega,(e.trans e6).trans e7,hnext.symm⟩,by omega⟩))
 ·have:k=bs.length:=by omega
  subst this;rw[zAA];exact hR w e
def Wcs (l:List (Int×Bk)):Int:=(l.map λe=>e.2.2.1).sum
theorem WgC (hi:HI H held s0){bs:List Bk}(hl:LiveL H.live bs):(bs.map λb=>(b.1,b)).Perm H.live:=by
 have h1:(bs.map λb=>(b.1,b)).Nodup:=zCB.2 (hl.srt.imp λ{a b} h e=>by have:=congrArg Prod.fst e;simp only at this;omega);have h2:H.live.Nodup:=by
  have:=zCB.1 hi.lk;exact this.imp λ{a b} h e=>h (by rw[e])
 rw[zEF h1 h2];intro e;rw[zC];constructor
 ·rintro⟨b,hb,rfl⟩;exact(hl.mem b).1 hb
 ·intro he;have h3:=(hi.lv e he).1;exact⟨e.2,(hl.mem e.2).2 (by rw[h3];exact he),by rw[h3]⟩
theorem WlE {l l':List Int}(h:l.Perm l'):l.sum=l'.sum:=by
 induction h with
 | nil=>rfl
 | cons a _ ih=>simp only[zp];omega
 | swap a b l=>simp only[zp];omega
 | trans _ _ h1 h2=>omega
theorem Why (hi:HI H held s0){bs:List Bk}(hl:LiveL H.live bs):(bs.map λb=>b.2.1).sum=Wcs H.live:=by
 have h1:=WlE ((WgC hi hl).map λe=>e.2.2.1);rw[zAJ]at h1;exact h1
def Wc6 (H:Hw):Nat:=KG H+Q8 KV H+Q8 HD H
def Gb:List Value:=[.int .i64 0,.int .i64 0,.int .i64 0,.int .i64 0,.int .i64 0,.int .i64 0,.int .i64 0,.int .i64 0,.int .i64 0,.int .i64 0]
set_option maxRecDepth 16000 in
theorem WdW (p:MP σ0 σ L H held s0 P mb am x){R:Int->Int->Int->Int->Int->Int->Int->Int->Int->Int->Hp->Prop}
 (hR:∀w,Ext0 σ w->StOk H->R x.sum (Wcs H.live) (Wc6 H:Nat) (Q8 Ve H:Nat) (Q8 Kg H*256:Nat) x.peak x.dirty (x.mallocs:Nat) (x.frees:Nat) (x.fails:Nat) w):Xi.c (some ⟨mb,0,none⟩) σ R:=by
 refine Xi.o ?_;unfold Xi.v;refine nw (cs:=Gb) λv hz e hb=>Was (p.fr e) (ifF rfl (nilP ((p.fr e).b.rP rfl (Wbm (p.fr e).h p.hi p.hands λv12 e12 so=>?_))));refine nw (cs:=KI) λv13 hz13 e13 b13=>st11 b13 _ _ _ _ _ _ _ _ _ _ _ λv24 e24 b24=>?_;have e24':Ext0 v12 v24:=Ext.fresh e13 e24 λi (hi:i=v12.size)=>by omega
 have ev:Ext0 v v24:=e12.trans e24';have p24:=(p.fr e).fr ev;obtain⟨so1,so2,so3,so4,so5,so6,so7⟩:=so;refine⟨λm=>Ext0 v24 m,Ext.refl _ _,nilP (Blk.rH (c:=.i .i64) (y:=x.sum) p24.b rfl (nilP (Blk.rH (c:=.p) (y:=some ⟨L.p,0,none⟩) p24.b rfl (Blk.rH (c:=.i .i64) (y:=(KG H:Nat)) b24 rfl (Blk.rH (c:=.i .i64) (y:=0) b24 rfl (arN (m:=KG H) (by omega) (by omega) ?_))))))⟩;refine Blk.rH (c:=.i .i64) (y:=(Q8 KV H:Nat)) b24 rfl (arN (m:=KG H+Q8 KV H) (by omega) (by omega) (Blk.rH (c:=.i .i64) (y:=(Q8 HD H:Nat)) b24 rfl (arN (m:=Wc6 H) (by unfold Wc6;omega) (by unfold Wc6;omega) ?_)));refine Blk.rH (c:=.i .i64) (y:=(Q8 Ve H:Nat)) b24 rfl (Blk.rH (c:=.i .i64) (y:=(Q8 Kg H:Nat)) b24 rfl (arN (m:=Q8 Kg H*256) (by omega) (by omega) ?_));refine nilP (Blk.rH (c:=.i .i64) (y:=x.peak) p24.b rfl (nilP (Blk.rH (c:=.i .i64) (y:=x.dirty) p24.b rfl (nilP (Blk.rH (c:=.i .i64) (y:=(x.mallocs:Int)) p24.b rfl (nilP (Blk.rH (c:=.i .i64) (y:=(x.frees:Int)) p24.b rfl (nilP (Blk.rH (c:=.i .i64) (y:=(x.fails:Int)) p24.b rfl ?_)))))))));refine WdJ p24.h p.hi λs v25 bs e25 hl hrow=>⟨e25,?_⟩;refine Whg (RowR.slR hrow) (by rw[hl.len];exact p.hi.live_len) (λb hb=>?_) λv26 e26=>⟨e25.trans e26,?_⟩
 ·have:=p.hi.size8 ((hl.mem b).1 hb);simp only at this;omega
 rw[Why p.hi hl];have b26:Blk v26 σ.size Gb:=((ev.trans e25).trans e26).blk hb id;unfold Gb at b26;refine b26.s1 (by simp) λv1 o1 b1=>b1.s1 (by simp) λv2 o2 b2=>b2.s1 (by simp) λv3 o3 b3=>b3.s1 (by simp) λv4 o4 b4=>b4.s1 (by simp) λv5 o5 b5=>b5.s1 (by simp) λv6 o6 b6=>b6.s1 (by simp) λv7 o7 b7=>b7.s1 (by simp) λv8 o8 b8=>b8.s1 (by simp) λv9 o9 b9=>b9.s1 (by simp) λv10 o10 b10=>?_;refine b10.rI rfl (b10.rI rfl (b10.rI rfl (b10.rI rfl (b10.rI rfl (b10.rI rfl (b10.rI rfl (b10.rI rfl (b10.rI rfl (b10.rI rfl (hR v10 ?_ ⟨so1,so2,so3,so4,so5,so6,so7⟩))))))))));have eo:Ext (· = σ.size) v26 v10:=((((((((o1.ext.trans o2.ext).trans o3.ext).trans o4.ext).trans o5.ext).trans o6.ext).trans o7.ext).trans o8.ext).trans o9.ext).trans o10.ext;exact Ext.fresh (((e.trans ev).trans e25).trans e26) eo λi (hi:i=σ.size)=>by omega
theorem WhN (h:HH σ F L H)(hp:1<=H.cf.pages){R:Bool->Hp->Prop}(hR:∀σ',Ext0 σ σ'->R true σ'):ZP.c (some ⟨L.p,0,none⟩) σ R:=by
 refine ZP.o ?_;unfold ZP.v;refine JnB.intro (ifT rfl (Wd3 h λw e=>?_));have:decide ((H.cf.pages:Int)>0)=true:=zQ (by omega);rw[this];exact hR w e
theorem Wjc (e0:Ext0 σ0 σ)(h:HH σ P L H)(hi:HI H held s0)(hc:CfOk H)(hph:∀g∈H.ths,g.ph=none)(hpg:H.cf.pages<=128)(hP:∀b,P b->σ0.size<=b/\b<σ.size)(hg:Off (λb=>σ0.size<=b)/\¬σ0.size<=1){R:Option Addr->Int->Hp->Prop}
 (hR:∀w mb am,Ext0 σ w->σ.size<=mb->σ.size<=am->MP σ0 w L H held s0 P mb am me0->R (some ⟨mb,0,none⟩) 0 w):Z9.c (some ⟨L.p,0,none⟩) σ R:=by
 refine Z9.o ?_;unfold Z9.v;refine WhN h hc.1 λv e=>ifF rfl (WcO λv1 hz1 e1 m1=>nw (cs:=meV L.p v.size me0) λv2 hz2 e2 b2=>?_);have hz:=e.1;have hs:=e0.1;have e02:=(e.trans e1).trans e2;refine hR v2 v1.size v.size e02 (by omega) hz ⟨e0.trans e02,h.keep0 e02,hi,hc,hph,hpg,λb hb=>⟨(hP b hb).1,by have:=(hP b hb).2;omega⟩,⟨by omega,λhb=>by have:=(hP _ hb).2;omega⟩,⟨by omega,λhb=>by have:=(hP _ hb).2;omega⟩,by omega,b2,e2.mapL (m1 _ _) id,hg⟩
end Go.Ar
namespace Go.Ar
open Go Go.Vc Go.Proofs
variable {σ v w:Hp}{s:Sl}{xs:List (Int×Int×Int)}
def WgN (c:Cls)(size:Int):Int:=(c.size:Int)-size+(((c.tail+c.n-1)/c.n:Nat):Int)
def UP (xs:List (Int×Int×Int))(size align:Int):Int×Int:=if Zm xs then(if size<=16384/\Z7 size align=true then(match clsV (xs.map YC) size align with
 | some k=>WgN ((xs.map YC).getD k ⟨8,1,1⟩) size
 | none=>Wb7 size-size,0)else(0,1))else(0,2)
theorem War (ha:Acts σ s xs){i:Nat}{x y z:Int}(hx:xs[i]?=some (x,y,z)){K:Int->Prop}(hK:K x):Ix s.a s.len (i:Int) 3 λa=>LdI .i64 (a.add 0) σ K:=by
 have hi:=(gSi.1 hx).1;obtain⟨hl,h⟩:=ha;obtain⟨b,o,h1,_,h2,_⟩:=h i x y z hx;rw[h1];refine ix (by omega) (by omega) (ldI ?_ hK);rw[add_lit,add_lit];simpa using h2
theorem GJ {c:Cls}(hc:c.ok):c.tail<=1024/\1<=c.n/\c.n<=128/\(c.tail+c.n-1)/c.n<=1200:=by
 have h1:=hc.n_pos;have h2:=hc.n_le;have h3:c.tail<=1024:=by unfold Cls.tail;have:=hc.2.2.2.2.1;omega
 exact⟨h3,h1,h2,ze (Nat.div_le_self _ _) (by omega)⟩
set_option maxRecDepth 8000 in
theorem Wdh (ha:Acts σ s xs)(size align:Int){R:Int->Int->Hp->Prop}(hR:∀σ',Ext0 σ σ'->R (UP xs size align).1 (UP xs size align).2 σ'):Zp.c s size align σ R:=by
 refine Zp.o ?_;unfold Zp.v;refine V4 ha λv e=>?_;have ha1:=Xb ha e;cases hv:Zm xs with
 | false=>
  have:=hR v e;unfold UP at this;rw[hv]at this;exact ifT rfl this
 | true=>
  refine ifF rfl ?_;have fin:∀r,r = !decide (size<=16384/\Z7 size align=true)->(r=true->R 0 1 v)/\(r=false->size<=16384/\Z7 size align=true):=by
   intro r hr;refine⟨λh=>?_,λh=>?_⟩
   ·have hn:¬(size<=16384/\Z7 size align=true):=by rw[hr,zAO,decide_eq_false_iff_not]at h;exact h
    have:=hR v e;unfold UP at this;rw[hv,zB rfl,zA hn]at this;exact this
   ·rw[hr]at h;simpa using h
  refine Kc (λr w=>v=w/\r=decide (size<1\/16384<size)) (λr w ⟨hw,hr⟩=>?_) λJ hJ=>ifD (λh=>hJ _ _ ⟨rfl,(zQ (.inl h)).symm⟩) λh=>hJ _ _ ⟨rfl,by rw[decide_eq_decide];omega⟩;subst hw;refine Kc (λr w'=>v=w'/\r=decide (size<1\/16384<size\/align<1)) (λr w' ⟨hw,hr⟩=>?_) λJ hJ=>iff_ (λh=>hJ _ _ ⟨rfl,by rw[hr]at h;have:=zAS h;exact(zQ (by omega)).symm⟩) λh=>hJ _ _ ⟨rfl,by rw[hr]at h;have:=zAW h;rw[decide_eq_decide];omega⟩;subst hw;refine Kc (λr w'=>v=w'/\r=decide (size<1\/16384<size\/align<1\/256<align)) (λr w' ⟨hw,hr⟩=>?_) λJ hJ=>iff_ (λh=>hJ _ _ ⟨rfl,by rw[hr]at h;have:=zAS h;exact(zQ (by omega)).symm⟩) λh=>hJ _ _ ⟨rfl,by rw[hr]at h;have:=zAW h;rw[decide_eq_decide];omega⟩;subst hw;refine Kc (λr w'=>v=w'/\r = !decide (size<=16384/\Z7 size align=true)) (λr w' ⟨hw,hr⟩=>?_) λJ hJ=>iff_ (λh=>hJ _ _ ⟨rfl,?_⟩) λh=>?_
  ·subst hw;obtain⟨f1,f2⟩:=fin r hr;refine iff_ f1 λh0=>?_;obtain⟨hs,hok⟩:=f2 h0;have hsz:1<=size:=by simp only[Z7,zF,zN]at hok;exact hok.1
   refine WdO ha1 hv size align λv6 e6=>?_;have hR6:=λv7 (e7:Ext0 v6 v7)=>hR v7 ((e.trans e6).trans e7);unfold UP at hR6;rw[hv,zB rfl,zB ⟨hs,hok⟩]at hR6;rw[hok];cases hcl:clsV (xs.map YC) size align with
   | none=>
    rw[hcl]at hR6;refine ifT rfl (ar (by omega) (by omega) (ar (by omega) (by omega) (nz (by decide) (ar (by rw[YQ (by omega)];omega) (by rw[YQ (by omega)];omega) ?_))));rw[YQ (by omega)];refine ar (by omega) (by omega) (ar (by omega) (by omega) ?_);have h7:=hR6 v6 (Ext.refl _ _);simp only[Wb7]at h7;rw[show size+256-1=size+255 by omega];exact h7
   | some k=>
    rw[hcl]at hR6;have hk:k<(xs.map YC).length:=(zGJ.1 hcl).1;have hck:(xs.map YC)[k]?=some (xs.map YC)[k]:=gGe hk;generalize (xs.map YC)[k]=c at hck;have hcd:(xs.map YC).getD k ⟨8,1,1⟩=c:=by rw[zO,hck];rfl
    simp only[hcd]at hR6;obtain⟨hx,hco⟩:=KP ha1 hv hck;obtain⟨b1,b2,b3,b4⟩:=GJ hco;have ha6:=Xb ha1 e6;have hcs:=hco.2.1;refine ifF rfl ?_;simp only[zP,zBY];refine K0 ha6 hx (Vv _ _ _ (λc' hc' h1 h2 h3 v7 e7=>?_) λhbad=>?_)
    ·have hcc:c'=c:=by
      cases c';cases c;simp only[Cls.mk.injEq]at *;omega
     subst hcc;obtain⟨q,hq⟩:∃q,(c'.tail+c'.n-1)/c'.n=q:=⟨_,rfl⟩;rw[hq]at b4;unfold WgN at hR6;rw[hq]at hR6;have ha7:=Xb ha6 e7;refine K0 ha7 hx (WeJ hco λv8 e8=>?_);refine War (Xb ha7 e8) hx (ar (by omega) (by omega) (arN (m:=c'.tail+c'.n) (by omega) (by omega) (arN (m:=c'.tail+c'.n-1) (by omega) (by omega) (nz (by omega) (arN (m:=q) ?_ (by omega) (ar (by omega) (by omega) ?_))))))
     ·rw[YQ (by omega),←hq];exact(Int.natCast_ediv _ _).symm
     ·exact hR6 v8 (e7.trans e8)
    ·rw[(Vg c).2 hco]at hbad;cases hbad
  ·rw[hr]at h;have h1:=zAS h;have:¬(size<=16384/\Z7 size align=true):=λ⟨h2,h3⟩=>by
    simp only[Z7,zF,zN]at h3;omega
   rw[zT this];rfl
  ·rw[hr]at h;have h1:=zAW h;refine ar (by omega) (by omega) (hJ _ _ ⟨rfl,?_⟩);rw[WhP (by omega) (by omega)]
   congr 1
   rw[zBF,zN];simp only[Z7,zF,zN];exact⟨λh=>⟨by omega,by omega,by omega,by omega,h⟩,λh=>h.2.2.2.2⟩
end Go.Ar
namespace Go.Ar
open Go Go.Vc Go.Proofs
open Go.Vc (mget mset mdel)
variable {σ σ0 v w w':Hp}{F P Q X T:Rg}{L:LayH}{H H':Hw}{held:List Pc}{s0:Sp}{t n:Nat}{g:Th}{mb am m:Nat}{x y:Me}{s:Sl}{xs:List (Int×Int×Int)}{bs:List Bk}
abbrev U6:=Int×Int×Int×Int×Int×Int
def uS (f:Bk->Int)(bs:List Bk)(c:Int):Int:=(bs.map λb=>if b.2.2.1=c then f b else 0).sum
def one (_:Bk):Int:=1
def bsz (b:Bk):Int:=b.2.1
def bas (asked:List (Int×Int))(b:Bk):Int:=(mget asked b.1).getD 0
theorem Wcy {f:Bk->Int}{i:Nat}{b:Bk}(h:bs[i]?=some b)(c:Int):uS f (bs.take (i+1)) c=uS f (bs.take i) c+(if b.2.2.1=c then f b else 0):=by
 unfold uS;rw[zr,h];simp
theorem Wez {f:Bk->Int}{k:Int}(hk:0<=k)(h:∀b∈bs,0<=f b/\f b<=k)(c:Int):0<=uS f bs c/\uS f bs c<=bs.length*k:=by
 refine Ux (f:=λb:Bk=>if b.2.2.1=c then f b else 0) λb hb=>?_
 have:=h b hb;split<;>omega
theorem WcD {f:Bk->Int}{c:Int}:∀{bs:List Bk},uS one bs c=0->uS f bs c=0
 | [],_=>rfl
 | b::bs,h=>by
  have hp:=(Wez (f:=one) (bs:=bs) (k:=1) (by omega) (λb _=>⟨by unfold one;omega,by unfold one;omega⟩) c).1;have h1:uS one (b::bs) c=(if b.2.2.1=c then 1 else 0)+uS one bs c:=rfl
  have h2:uS f (b::bs) c=(if b.2.2.1=c then f b else 0)+uS f bs c:=rfl
  rw[h1]at h;by_cases hc:b.2.2.1=c
  ·rw[zB hc]at h;omega
  ·rw[zA hc]at h h2;rw[h2,WcD (by omega)];omega
def uEnt (asked:List (Int×Int))(bs:List Bk)(c:Int):U6:=(c,0,uS one bs c,uS bsz bs c,uS (bas asked) bs c,0)
def UOk (U:List (Int×U6))(asked:List (Int×Int))(bs:List Bk):Prop:=∀c,mget U c=if uS one bs c=0 then none else some (uEnt asked bs c)
theorem UOk.q {U:List (Int×U6)}{asked:List (Int×Int)}(h:UOk U asked bs)(c:Int):∃a,(mget U c).getD (0,0,0,0,0,0)=(a,0,uS one bs c,uS bsz bs c,uS (bas asked) bs c,0):=by
 rw[h c];split
 ·rename_i h0;exact⟨0,by rw[h0,WcD h0,WcD h0];rfl⟩
 ·exact⟨c,rfl⟩
def usSz (tb:List Cls)(j:Nat):Int:=if j=0 then 0 else((tb.getD (j-1) ⟨8,1,1⟩).size:Int)
def usSp (tb:List Cls)(j:Nat)(l:Int):Int:=if j=0 then 0 else(l+((tb.getD (j-1) ⟨8,1,1⟩).n:Int)-1)/((tb.getD (j-1) ⟨8,1,1⟩).n:Int)
def WbD (tb:List Cls)(asked:List (Int×Int))(bs:List Bk)(j:Nat):Option U6:=if uS one bs ((j:Int)-1)=0 then none else
 some ((j:Int)-1,usSz tb j,uS one bs ((j:Int)-1),uS bsz bs ((j:Int)-1),uS (bas asked) bs ((j:Int)-1),usSp tb j (uS one bs ((j:Int)-1)))
def usL (tb:List Cls)(asked:List (Int×Int))(bs:List Bk)(m:Nat):List U6:=(List.range m).filterMap (WbD tb asked bs)
def u6V (r:U6):List Value:=[.int .i64 r.1,.int .i64 r.2.1,.int .i64 r.2.2.1,.int .i64 r.2.2.2.1,.int .i64 r.2.2.2.2.1,.int .i64 r.2.2.2.2.2]
def usV (l:List U6):List Value:=l.flatMap u6V
theorem Wil (tb:List Cls)(asked:List (Int×Int))(bs:List Bk)(m:Nat):usL tb asked bs (m+1)=usL tb asked bs m++(WbD tb asked bs m).toList:=by
 unfold usL;rw[zBD,zDG];cases h:WbD tb asked bs m<;>simp[h]
theorem Wjm (tb:List Cls)(asked:List (Int×Int))(bs:List Bk)(m:Nat):(usL tb asked bs m).length<=m:=by
 have:=List.length_filterMap_le (WbD tb asked bs) (List.range m);rw[zCY]at this;exact this
theorem WcJ (l:List U6):(usV l).length=l.length*6:=by
 unfold usV
 induction l with
 | nil=>rfl
 | cons b bs ih=>rw[zBN,zJ,ih];simp[u6V];omega
theorem WfD (ha:Acts σ s xs){i:Nat}{x y z:Int}(hx:xs[i]?=some (x,y,z)){K:Int->Prop}(hK:K x):Ix s.a s.len (i:Int) 3 λa=>LdH (λm=>Ext0 σ m) (.i .i64) (a.add 0) K:=by
 have hi:=(gSi.1 hx).1;obtain⟨hl,h⟩:=ha;obtain⟨b,o,h1,_,h2,_⟩:=h i x y z hx;rw[h1];refine ix (by omega) (by omega) ⟨x,λm hm=>?_,hK⟩;have h2':cell σ ⟨b,o+(i:Int).toNat*3+0,none⟩=some (.int .i64 x):=by simpa using h2
 rw[add_lit,add_lit,ZD hm (ZB h2') id];exact h2'
theorem lkE {k:IntKind}{c:CK}{r:Nat}{l:List (Int×c.T)}{n:Int}{o:Option c.T}{K:Option c.T->Prop}(hm:MapL σ r k c l)(h:mget l n=o)(hK:K o):Lk k c (some r) n σ K:=⟨l,hm,by rw[h];exact hK⟩
def GZ:List Value:=[.int .i64 0,.int .i64 0,.int .i64 0,.int .i64 0,.int .i64 0,.int .i64 0]
set_option maxRecDepth 16000 in
theorem WhE (p:MP σ0 σ L H held s0 P mb am x)(mi:MeI x){R:Sl->Hp->Prop}
 (hR:∀s w bs,Ext0 σ w->LiveL H.live bs->RowR s 6 (usV (usL H.tb x.asked bs (H.tb.length+1))) w (λb=>σ.size<=b)->R s w):X0.c (some ⟨mb,0,none⟩) σ R:=by
 refine X0.o ?_;unfold X0.v;refine Was p (ifF rfl (nilP (p.b.rP rfl (Wbz p.h p.h.tb40 λtab v1 e1 htab=>WcO λv2 hz2 e2 m2=>nilP ?_))));have e12:=e1.trans e2;have p2:=p.fr e12;refine p2.b.rP rfl (WdJ p2.h p.hi λs v3 bs e3 hl hrow=>?_);have e03:=e12.trans e3;have p3:=p.fr e03;have m3:MapL v3 v1.size .i64 (.ag 6) []:=e3.mapL (m2 _ _) id;have hub:σ.size<=v1.size:=e1.1;have hsl:s.len=bs.length:=by have:=hrow.1;rw[U1]at this;omega
 have hbl:bs.length<=1000000:=by rw[hl.len];exact p.hi.live_len
 have hb1:∀b∈bs,0<=bsz b/\bsz b<=270000:=λb hb=>by
  have:=p.hi.size8 ((hl.mem b).1 hb);unfold bsz;simp only at this;omega
 have hb2:∀b∈bs,0<=bas x.asked b/\bas x.asked b<=16384:=λb hb=>by
  unfold bas;cases hm:mget x.asked b.1 with
  | none=>exact⟨zCN _,by decide⟩
  | some z=>exact mi.v _ (KF hm)
 have hb0:∀b∈bs,0<=one b/\one b<=1:=λb hb=>⟨by unfold one;omega,by unfold one;omega⟩;have hacts:Acts v3 tab (H.tb.map clsT):=Xb (He htab) (e2.trans e3);have htl:tab.len=H.tb.length:=by have:=htab.1;rw[QE]at this;omega
 refine Zw (a:=.i .i64) (λ(i:Int) w=>∃(k:Nat) (U:List (Int×U6)),i=k/\k<=bs.length/\Ext (· = v1.size) v3 w/\MapL w v1.size .i64 (.ag 6) U/\UOk U x.asked (bs.take k)) (λi _=>bs.length-i.toNat) ⟨0,[],rfl,by omega,Ext.refl _ _,m3,λc=>rfl⟩ ?_;rintro(i:Int) w ⟨k,U,rfl,hk,e,hm,hU⟩;have pw:MP σ0 w L H held s0 P mb am x:=p3.out e λq _ (hq:q=v1.size)=>by
  have h1:=p.b.lt;have h2:=p.m.lt;have h3:=p.e.1;exact⟨λhP=>by have:=(p.pP q hP).2;omega,by omega,by omega,by omega⟩
 refine ifD (λhlt=>?_) λhge=>?_
 ·have hk':k<bs.length:=by omega
  have hg:bs[k]?=some bs[k]:=gGe _;generalize bs[k]=b at hg;have hbm:=zE hg;have q0:=hb0 b hbm;have q1:=hb1 b hbm;have q2:=hb2 b hbm;have hlk:(bs.take k).length=k:=by rw[zY];omega
  have l0:=Wez (bs:=bs.take k) (by omega) (λb h=>hb0 b (zBS h)) b.2.2.1;have l1:=Wez (bs:=bs.take k) (by omega) (λb h=>hb1 b (zBS h)) b.2.2.1;have l2:=Wez (bs:=bs.take k) (by omega) (λb h=>hb2 b (zBS h)) b.2.2.1;rw[hlk]at l0 l1 l2;have n0:=λc=>Wcy (f:=one) hg c;have n1:=λc=>Wcy (f:=bsz) hg c;have n2:=λc=>Wcy (f:=bas x.asked) hg c;obtain⟨a0,hq⟩:=hU.q b.2.2.1;have hrw:SlR s 4 (bksV bs) w (λq=>v2.size<=q):=RowR.slR ((RowR.loc _ _ _).keep hrow e λq _ (h1:v2.size<=q) (h2:q=v1.size)=>by omega);refine WkP hrw hg λbb o hc=>ldI0 (hc 0 _ rfl) (ldI0 (hc 1 _ rfl) (ldI0 (hc 2 _ rfl) (ldI0 (hc 3 _ rfl) ?_)));refine nw (cs:=[.int .i64 0,.int .i64 0,.int .i64 0,.int .i64 0]) λu2 hz2 f2 c2=>c2.s1 (by simp) λu3 o3 c3=>c3.s1 (by simp) λu4 o4 c4=>c4.s1 (by simp) λu5 o5 c5=>c5.s1 (by simp) λu6 o6 c6=>?_;have f6:Ext0 w u6:=Ext.fresh (Ext.fresh (Ext.fresh (Ext.fresh f2 o3.ext λi hi=>by omega) o4.ext λi hi=>by omega) o5.ext λi hi=>by omega) o6.ext λi hi=>by omega
  have hm6:=f6.mapL hm id;obtain⟨mu,hmu⟩:∃mu,mget U b.2.2.1=mu:=⟨_,rfl⟩;rw[hmu]at hq;refine c6.rI rfl (lkE hm6 hmu ?_);rw[hq];refine nw (cs:=GZ) λu7 hz7 f7 d7=>?_;unfold GZ at d7;refine d7.s1 (by simp) λu8 o8 d8=>d8.s1 (by simp) λu9 o9 d9=>d9.s1 (by simp) λu10 o10 d10=>d10.s1 (by simp) λu11 o11 d11=>d11.s1 (by simp) λu12 o12 d12=>d12.s1 (by simp) λu13 o13 d13=>?_;have f13:Ext0 u6 u13:=Ext.fresh (Ext.fresh (Ext.fresh (Ext.fresh (Ext.fresh (Ext.fresh f7 o8.ext λi hi=>by omega) o9.ext λi hi=>by omega) o10.ext λi hi=>by omega) o11.ext λi hi=>by omega) o12.ext λi hi=>by omega) o13.ext λi hi=>by omega
  have c13:=f13.blk c6 id;have hne:∀{u u':Hp},ZY u u' u6.size->Blk u w.size (bkV b)->Blk u' w.size (bkV b):=λo h=>o.ext.blk h λ(hx:w.size=u6.size)=>by have:=c6.lt;omega
  refine c13.rI rfl (d13.s1 (by simp) λu14 o14 d14=>d14.rI rfl (ar (by simp only;omega) (by simp only;omega) (d14.s1 (by simp) λu15 o15 d15=>d15.rI rfl ?_)));have c15:Blk u15 w.size (bkV b):=hne o15 (hne o14 c13);refine c15.rI rfl (ar (by show _<=uS bsz (bs.take k) b.2.2.1+bsz b;omega) (by show uS bsz (bs.take k) b.2.2.1+bsz b<=_;omega) (d15.s1 (by simp) λu16 o16 d16=>d16.rI rfl (nilP ?_)));have c16:=hne o16 c15;have f16:Ext0 w u16:=Ext.fresh (Ext.fresh (Ext.fresh (f6.trans f13) o14.ext λi hi=>by have:=f6.1;omega) o15.ext λi hi=>by have:=f6.1;omega) o16.ext λi hi=>by have:=f6.1;omega
  have p16:=pw.fr f16;refine p16.b.rM rfl (c16.rI rfl ⟨x.asked,p16.m,ar (by show _<=uS (bas x.asked) (bs.take k) b.2.2.1+bas x.asked b;omega) (by show uS (bas x.asked) (bs.take k) b.2.2.1+bas x.asked b<=_;omega) (d16.s1 (by simp) λu17 o17 d17=>?_)⟩);have c17:=hne o17 c16;have f17:Ext0 w u17:=Ext.fresh f16 o17.ext λi hi=>by have:=f6.1;omega
  refine c17.rI rfl (d17.rI rfl (d17.rI rfl (d17.rI rfl (d17.rI rfl (d17.rI rfl (d17.rI rfl ⟨v1.size,U,rfl,f17.mapL hm id,λu18 o18 m18=>?_⟩))))));refine arN (m:=k+1) (by omega) (by omega) ⟨⟨k+1,_,rfl,by omega,?_,m18,?_⟩,by omega⟩
  ·exact(e.trans (Ext0.to f17)).trans o18.ext
  ·intro c;have hp0:=(Wez (bs:=bs.take k) (by omega) (λb h=>hb0 b (zBS h)) c).1;rw[WeM];by_cases hcc:c=b.2.2.1
   ·subst hcc;have e0:=n0 b.2.2.1;have e1:=n1 b.2.2.1;have e2:=n2 b.2.2.1;rw[zB rfl]at e0 e1 e2;have:¬uS one (bs.take (k+1)) b.2.2.1=0:=by rw[e0];unfold one at *;omega
    rw[zB rfl,zA this];unfold uEnt;rw[e0,e1,e2];rfl
   ·have hne':¬b.2.2.1=c:=λh=>hcc h.symm;have e0:=n0 c;have e1:=n1 c;have e2:=n2 c;rw[zA hne',Int.add_zero]at e0 e1 e2;rw[zA hcc,hU c];unfold uEnt;rw[e0,e1,e2]
 ·have hkk:k=bs.length:=by omega
  subst hkk;rw[zAA]at hU;have hacts1:=He htab;have hactw:Acts w tab (H.tb.map clsT):=HF hacts e λq (hq:q=v1.size) o ha=>by
   obtain⟨_,hc⟩:=hacts1;cases htb0:H.tb with
   | nil=>have:=p.cf.2.2;unfold TbOk at this;rw[htb0]at this;exact absurd this (by decide)
   | cons c0 r0=>
    obtain⟨b',o',h1,h2,_⟩:=hc 0 c0.size c0.pages c0.batch (by rw[htb0];rfl);rw[ha]at h1;simp only[Option.some.injEq,Addr.mk.injEq]at h1;omega
  refine Ks (a:=.s) (bb:=.i .i64) (λ(out:Sl) (c:Int) u=>∃j:Nat,c=(j:Int)-1/\j<=H.tb.length+1/\Ext (λq=>v2.size<=q) w u/\RowR out 6 (usV (usL H.tb x.asked bs j)) u (λq=>v2.size<=q)) (λ_ c _=>(H.tb.length+1)-(c+1).toNat) ⟨0,rfl,by omega,Ext.refl _ _,⟨rfl,.inl ⟨rfl,rfl⟩⟩⟩ ?_;rintro(out:Sl) (c:Int) u ⟨j,rfl,hj,eu,hout⟩;have ht40:=p.h.tb40;have hwz:=e.1;have h3z:=e3.1;have huz:=eu.1;have hlen:=Wjm H.tb x.asked bs j;have hol:out.len<=j:=by have:=hout.1;rw[WcJ]at this;omega
  refine ifD (λhlt=>?_) λhge=>?_
  ·have hmu:MapL u v1.size .i64 (.ag 6) U:=eu.mapL hm λ(hx:v2.size<=v1.size)=>by omega
   have hsucc:=Wil H.tb x.asked bs j;by_cases h0:uS one bs ((j:Int)-1)=0
   ·have hU0:mget U ((j:Int)-1)=none:=by rw[hU,zB h0]
    have hrow0:WbD H.tb x.asked bs j=none:=by unfold WbD;rw[zB h0]
    rw[hrow0]at hsucc;refine lkE hmu hU0 ?_;refine nw (cs:=GZ) λu7 hz7 f7 d7=>?_;unfold GZ at d7;refine d7.s1 (by simp) λu8 o8 d8=>d8.s1 (by simp) λu9 o9 d9=>d9.s1 (by simp) λu10 o10 d10=>d10.s1 (by simp) λu11 o11 d11=>d11.s1 (by simp) λu12 o12 d12=>d12.s1 (by simp) λu13 o13 d13=>?_;have f13:Ext0 u u13:=Ext.fresh (Ext.fresh (Ext.fresh (Ext.fresh (Ext.fresh (Ext.fresh f7 o8.ext λi hi=>by omega) o9.ext λi hi=>by omega) o10.ext λi hi=>by omega) o11.ext λi hi=>by omega) o12.ext λi hi=>by omega) o13.ext λi hi=>by omega
    refine ifT rfl (ar (by omega) (by omega) ⟨⟨j+1,by omega,by omega,eu.trans (Ext0.to f13),?_⟩,by omega⟩);rw[hsucc];simp only[Option.toList,zAL];exact(RowR.loc _ _ _).keep0 hout f13
   ·have hU1:mget U ((j:Int)-1)=some (uEnt x.asked bs ((j:Int)-1)):=by rw[hU,zA h0]
    have hrow1:WbD H.tb x.asked bs j=some ((j:Int)-1,usSz H.tb j,uS one bs ((j:Int)-1),uS bsz bs ((j:Int)-1),uS (bas x.asked) bs ((j:Int)-1),usSp H.tb j (uS one bs ((j:Int)-1))):=by unfold WbD;rw[zA h0]
    rw[hrow1]at hsucc;have l0:=Wez (bs:=bs) (by omega) hb0 ((j:Int)-1);unfold uEnt at hU1;generalize uS one bs ((j:Int)-1)=ul at *;generalize uS bsz bs ((j:Int)-1)=ub at *;generalize uS (bas x.asked) bs ((j:Int)-1)=ua at *;refine lkE hmu hU1 ?_;refine nw (cs:=GZ) λu7 hz7 f7 d7=>?_;unfold GZ at d7;refine d7.s1 (by simp) λu8 o8 d8=>d8.s1 (by simp) λu9 o9 d9=>d9.s1 (by simp) λu10 o10 d10=>d10.s1 (by simp) λu11 o11 d11=>d11.s1 (by simp) λu12 o12 d12=>d12.s1 (by simp) λu13 o13 d13=>?_;have f13:Ext0 u u13:=Ext.fresh (Ext.fresh (Ext.fresh (Ext.fresh (Ext.fresh (Ext.fresh f7 o8.ext λi hi=>by omega) o9.ext λi hi=>by omega) o10.ext λi hi=>by omega) o11.ext λi hi=>by omega) o12.ext λi hi=>by omega) o13.ext λi hi=>by omega
    refine ifF rfl (Wa2 (λq=>Ext0 u q/\Blk q u.size (u6V ((j:Int)-1,usSz H.tb j,ul,ub,ua,usSp H.tb j ul))) (λq ⟨eq,bq⟩=>?_) λJ hJ=>?_)
    ·refine bq.rI rfl (bq.rI rfl (bq.rI rfl (bq.rI rfl (bq.rI rfl (bq.rI rfl ?_)))));refine RowR.push (F:=λq=>v2.size<=q) (vs:=u6V ((j:Int)-1,usSz H.tb j,ul,ub,ua,usSp H.tb j ul)) ((RowR.loc _ _ _).keep0 hout eq) (λb hb=>by have:=eq.1;show v2.size<=b;omega) rfl rfl (by simp[u6V,one1]) (by omega) (by omega) λs' u' hsl eu' hrow'=>?_;refine ar (by omega) (by omega) ⟨⟨j+1,by omega,by omega,(eu.trans (Ext0.to eq)).trans eu',?_⟩,by omega⟩;rw[hsucc];have:usV (usL H.tb x.asked bs j++(some ((j:Int)-1,usSz H.tb j,ul,ub,ua,usSp H.tb j ul)).toList)=usV (usL H.tb x.asked bs j)++u6V ((j:Int)-1,usSz H.tb j,ul,ub,ua,usSp H.tb j ul):=by simp[usV]
     rw[this];exact hrow'
    ·refine ifD (λhc0=>?_) λhc0=>?_
     ·obtain⟨k,rfl⟩:∃k,j=k+1:=⟨j-1,by omega⟩;have hck:(((k+1:Nat):Int)-1)=(k:Int):=by omega
      rw[hck]at d13 hJ ⊢;have hkt:k<H.tb.length:=by omega
      have hcl:H.tb[k]?=some H.tb[k]:=gGe _;have hco:Cls.ok H.tb[k]:=p.hi.ok _ (zj hkt);have hgd:H.tb.getD (k+1-1) ⟨8,1,1⟩=H.tb[k]:=by rw[zGK,zO,hcl];rfl
      have hsz:usSz H.tb (k+1)=(H.tb[k].size:Int):=by unfold usSz;rw[zA (by omega),hgd]
      have hsp:usSp H.tb (k+1) ul=(ul+(H.tb[k].n:Int)-1)/(H.tb[k].n:Int):=by unfold usSp;rw[zA (by omega),hgd]
      rw[hsz,hsp]at hJ;generalize H.tb[k]=cl at hcl hco hJ;have hx:(H.tb.map clsT)[k]?=some ((cl.size:Int),(cl.pages:Int),(cl.batch:Int)):=by rw[za,hcl];rfl
      have hactu:Acts u13 tab (H.tb.map clsT):=Xb (HF hactw eu λq (hq:v2.size<=q) o ha=>by
       obtain⟨_,hc⟩:=hacts1;obtain⟨b',o',h1,h2,_⟩:=hc k _ _ _ hx;rw[ha]at h1;simp only[Option.some.injEq,Addr.mk.injEq]at h1;omega) f13
      have n1:=hco.n_pos;have n2:=hco.n_le;refine K0 hactu hx (Vv _ _ _ (λc' hc' h1 h2 h3 v7 e7=>?_) λhbad=>?_)
      ·have hcc:c'=cl:=by
        cases c';cases cl;simp only[Cls.mk.injEq]at *;omega
       subst hcc;have d14:=e7.blk d13 id;refine⟨λm=>Ext0 v7 m,Ext.refl _ _,WfD (Xb hactu e7) hx (Blk.rH (c:=.i .i64) (y:=ul) d14 rfl (ar (by omega) (by omega) (ar (by omega) (by omega) (nz (by omega) ?_))))⟩;have hq0:0<=(ul+(c'.n:Int)-1)/(c'.n:Int):=Int.ediv_nonneg (by omega) (by omega);have hq1:(ul+(c'.n:Int)-1)/(c'.n:Int)<=ul+(c'.n:Int)-1:=Int.ediv_le_self _ (by omega);rw[YQ (by omega)];generalize (ul+(c'.n:Int)-1)/(c'.n:Int)=qq at hq0 hq1 hJ ⊢;refine ar (by omega) (by omega) (d14.s1 (by simp) λu14 o14 d15=>d15.s1 (by simp) λu15 o15 d16=>hJ u15 ⟨?_,d16⟩);exact Ext.fresh (Ext.fresh (f13.trans e7) o14.ext λi hi=>by omega) o15.ext λi hi=>by omega
      ·rw[(Vg cl).2 hco]at hbad;cases hbad
     ·have hj0:j=0:=by omega
      subst hj0;exact hJ u13 ⟨f13,d13⟩
  ·have hjj:j=H.tb.length+1:=by omega
   subst hjj;refine hR out u bs (Ext.fresh (Ext.fresh e03 e λi (hi:i=v1.size)=>by omega) eu λi (hi:v2.size<=i)=>by omega) hl ((RowR.loc _ _ _).mono hout λq _ (hq:v2.size<=q)=>by show σ.size<=q;omega)
end Go.Ar
namespace Go.Proofs
open Go.Vc
set_option maxRecDepth 100000
def WF.h:Hn:=.q .o1 (.q .o2 (.q (.q .o2 (.c (.q .o1 .l) .l)) (.q .o7 (.q (.q (.reg (.seq [.op,.op,.op,.grd false 2 [.op,.op]])) (.c (.q .o1 .l) .l)) (.q .o7 (.q .o4 (.q .o8 (.q (.reg (.seq [.op,.op,.op,.grd true 3 (RI.ops 3),.op,.grd true 3 (RI.ops 3),.op,.grd true 3 (RI.ops 3),.op,.grd true 5 (RI.ops 5),.op,.grd true 2 [.op,.op],.op,.grd true 2 [.op,.op],.op])) .l))))))))
def WF.v (a:Hp)(b:Bool->Hp->Prop):Prop:=Xl.c a λc d=>If c.isNone (b false d) (Z9.c c d λe f g=>JnB (λh i=>If h (b false i) (XB.c e 0 20 8 i λj k l=>Xi.c e l λm n o p q r s t u v w=>Nw (.cells #[.I 0,.I 0,.I 0,.I 0,.I 0,.I 0,.I 0,.I 0,.I 0,.I 0] 56 (0,0)) w λx y=>St1 (x.add 0) (.I m) y λz=>St1 (x.add 1) (.I n) z λaa=>St1 (x.add 2) (.I o) aa λab=>St1 (x.add 3) (.I p) ab λac=>St1 (x.add 4) (.I q) ac λad=>St1 (x.add 5) (.I r) ad λae=>St1 (x.add 6) (.I s) ae λaf=>St1 (x.add 7) (.I t) af λag=>St1 (x.add 8) (.I u) ag λah=>St1 (x.add 9) (.I v) ah λai=>Ym.c c ai λaj ak=>Zp.c aj 20 8 ak λal am an=>JnB (λao ap=>JnB (λaq ar=>JnB (λau av=>JnB (λaw ax=>JnB (λay az=>JnB (λa0 a1=>b a0 a1) λa2=>If ay (a2 (am==0) az) (a2 false az)) λa3=>If aw (a3 (al==6) ax) (a3 false ax)) λa4=>If au (X0.c e av λa5 a6=>Nw (.cells #[.I 2,.I 24,.I 1,.I 24,.I 20,.I 1] 80 (0,0)) a6 λa7 a8=>XD.c a5 ⟨some a7,1,1⟩ a8 λa9 ba=>a4 a9 ba) (a4 false av)) λbb=>If aq (LdI .i64 (x.add 7) ar λbc=>bb (bc==1) ar) (bb false ar)) λbd=>If ao (LdI .i64 (x.add 1) ap λbe=>bd (be==24) ap) (bd false ap)) λbf=>If (k==0) (LdI .i64 (x.add 0) an λbg=>bf (bg==20) an) (bf false an))) λbh=>If (f != 0) (bh true g) (bh e.isNone g))
theorem WF.o {a b}(c:WF.v a b):WF.c a b:=Wa Tryz.func13 (x:=WF.h) (R0 c)
end Go.Proofs
namespace Go.Proofs
open Go.Vc
set_option maxRecDepth 100000
def XD.h:Hn:=.q .o1 (.q (.q .o5 (.c (.q .o1 .l) .l)) (.q (.q .o1 (.k (.loop [(5,.I)] (.q (.q .o4 (.c .l .l)) (.q (.k (.q (.oq 9) (.c (.q .o1 .l) .l))) .o3))))) (.q .o1 .l)))
def XD.v (a b:Sl)(c:Hp)(d:Bool->Hp->Prop):Prop:=If (((a.len:Nat):Int) != ((b.len:Nat):Int)) (d false c) (XL [(.i .i64)] (λe=>e 0 c) λf (g:Int) h=>If (g<((a.len:Nat):Int)) (Ix a.a a.len g 6 λi=>LdI .i64 (i.add 0) h λj=>LdI .i64 (i.add 1) h λk=>LdI .i64 (i.add 2) h λl=>LdI .i64 (i.add 3) h λm=>LdI .i64 (i.add 4) h λn=>LdI .i64 (i.add 5) h λo=>Ix b.a b.len g 6 λp=>LdI .i64 (p.add 0) h λq=>LdI .i64 (p.add 1) h λr=>LdI .i64 (p.add 2) h λs=>LdI .i64 (p.add 3) h λt=>LdI .i64 (p.add 4) h λu=>LdI .i64 (p.add 5) h λv=>If (!((j==q)&&((k==r)&&((l==s)&&((m==t)&&((n==u)&&((o==v)&&true))))))) (d false h) (Ar .i64 (g+1) λw=>f w h)) (d true h))
theorem XD.o {a b c d}(e:XD.v a b c d):XD.c a b c d:=Wa Tryz.func39 (x:=XD.h) (R0 e)
end Go.Proofs
namespace Go.Ar
open Go Go.Vc Go.Proofs
open Go.Vc (mget mset mdel)
variable {σ σ0 v w w':Hp}{F G P Q X T:Rg}{L:LayH}{H H':Hw}{held:List Pc}{s0:Sp}{t n:Nat}{g:Th}{mb am m:Nat}{x y:Me}
theorem Whd {α:Type}{l:List (Int×α)}{n:Int}(h:mget l n=none)(v:α):mset l n v=l++[(n,v)]:=by
 unfold mset;rw[zA];intro hx;obtain⟨y,hy,e⟩:=zl.1 hx;unfold mget at h;rw[zCM,zBI]at h;exact h y hy e
theorem H4 {α:Type}{l:List (Int×α)}{n:Int}(h:mget l n=none):mdel l n=l:=by
 unfold mdel;rw[zBE];intro y hy;unfold mget at h;rw[zCM,zBI]at h;have:=h y hy;simpa using this
theorem MeI.tops (mi:MeI x){D:Nat}(hD:D<=128):MeI (x.tops (D:Int)):=by
 have hs:=mi.sum_le;have hp:=mi.p;have hd:=mi.d;refine⟨mi.v,mi.l,mi.s,?_,?_,mi.c⟩
 ·unfold Me.tops;simp only;split<;>omega
 ·unfold Me.tops;simp only;split<;>omega
theorem MeI.mal (mi:MeI x){a size e:Int}{D:Nat}(h:mget x.asked a=none)(hc:x.calls<=899)(h0:0<=size)(h1:e=0->size<=16384)(hD:D<=128):MeI (x.mal a size e D):=by
 unfold Me.calls at hc;refine MeI.tops ?_ hD;by_cases he:e=0
 ·have h1:=h1 he;rw[zB he];have hf:x.forget a=x:=by unfold Me.forget;rw[H4 h,h];simp
  rw[hf];unfold Me.count Me.add;rw[zB he,zB rfl,Whd h];refine⟨λy hy=>?_,?_,?_,mi.p,mi.d,?_⟩
  ·rcases zM.1 hy with hy|hy
   ·exact mi.v y hy
   ·rw[zR]at hy;subst hy;exact⟨h0,h1⟩
  ·have:=mi.l;simp only[zJ,zFH];omega
  ·simp only[zAD,zDR];rw[mi.s];simp
  ·unfold Me.calls;simp only;omega
 ·rw[zA he];unfold Me.count;rw[zA he];exact⟨mi.v,mi.l,mi.s,mi.p,mi.d,by unfold Me.calls;simp only;omega⟩
theorem RunN.det {n m:Nat}{H H1 H2:Hw}{t:Nat}{p:Ph}{a1 e1 a2 e2:Int}(h:RunN n H t p H1 a1 e1)(h':RunN m H t p H2 a2 e2):H1=H2/\a1=a2/\e1=e2:=by
 induction h generalizing m with
 | done h1 h2=>
  cases h' with
  | done=>exact⟨rfl,rfl,rfl⟩
  | next _ h3 _=>rw[h2]at h3;cases h3
 | next h1 h2 _ ih=>
  cases h' with
  | done _ h3=>rw[h2]at h3;cases h3
  | next _ h3 h4=>rw[h2]at h3;cases h3;exact ih h4
theorem Gn.det {thread kind size align addr a1 e1 a2 e2:Int}{H1 H2:Hw}(h:Gn H thread kind size align addr H1 a1 e1)(h':Gn H thread kind size align addr H2 a2 e2):H1=H2/\a1=a2/\e1=e2:=by
 rcases h with⟨h1,_,rfl,rfl⟩|⟨t,p,n,h1,h2⟩
 ·rcases h' with⟨g1,_,rfl,rfl⟩|⟨_,_,_,g1,_⟩
  ·rw[h1]at g1;cases g1;exact⟨rfl,rfl,rfl⟩
  ·rw[h1]at g1;cases g1
 ·rcases h' with⟨g1,_⟩|⟨_,_,_,g1,g2⟩
  ·rw[h1]at g1;cases g1
  ·rw[h1]at g1;cases g1;exact h2.det g2
def wm:Hw×Int×Int:=nxt w0 0 20 0
theorem wm_2:wm.2=(4096,0):=by decide +kernel
theorem wm_w:Gn w0 0 0 20 8 0 wm.1 4096 0:=nxtW rfl wm_2 (by decide) rfl
theorem wm_d:wm.1.sp.st.count 2<=128:=by decide +kernel
theorem WgL:wm.1.live=[(4096,4096,24,2,0)]:=by decide +kernel
theorem Wln:wm.1.tb=tb8:=by decide +kernel
theorem wm_b:UP (tb8.map clsT) 20 8=(6,0):=by decide +kernel
theorem wm_u:usL tb8 [(4096,20)] [(4096,24,2,0)] (tb8.length+1)=[(2,24,1,24,20,1)]:=by decide +kernel
theorem Wlt:NewH w0 64:=by
 have h:=Wi8 (xs:=UT 8) (p:=64) (a:=1) (t:=1) (b:=1024) (r:=2) (Up 8 (by decide) (by decide)) (by decide);rw[w0_e]at h;exact h
theorem WeT:∀{l:List U6} {i:Nat} {r:U6},l[i]?=some r->∀{j:Nat} {v:Value},(u6V r)[j]?=some v->(usV l)[6*i+j]?=some v
 | [],i,b,h,_,_,_=>by simp at h
 | a::bs,0,b,h,j,v,hv=>by
  simp only[zEK,Option.some.injEq]at h;subst h;have hj:=(gSi.1 hv).1;show(u6V a++usV bs)[6*0+j]?=_;rw[show 6*0+j=j by omega,zd hj];exact hv
 | a::bs,i+1,b,h,j,v,hv=>by
  have ih:=WeT (l:=bs) (i:=i) (r:=b) (by simpa using h) hv;show(u6V a++usV bs)[6*(i+1)+j]?=_;rw[zk (by simp[u6V];omega)];have:6*(i+1)+j-(u6V a).length=6*i+j:=by simp[u6V];omega
  rw[this];exact ih
theorem WkA {s:Sl}{l:List U6}(hs:SlR s 6 (usV l) σ F){i:Nat}{r:U6}(hb:l[i]?=some r){K:Addr->Prop}(hK:∀bb o,(∀(j:Nat) v,(u6V r)[j]?=some v->cell σ ⟨bb,o+j,none⟩=some v)->K ⟨bb,o,none⟩):Ix s.a s.len (i:Int) 6 K:=by
 have hil:=(gSi.1 hb).1;have hl:s.len=l.length:=by have:=hs.1;rw[WcJ]at this;omega
 obtain⟨b,o,ha,_⟩:=hs.cell (WeT hb (j:=0) rfl);rw[ha];refine ix (by omega) (by omega) ?_;rw[add_lit];refine hK b _ λj v hv=>?_;obtain⟨b',o',ha',hc⟩:=hs.cell (WeT hb hv);rw[ha]at ha';cases ha';rw[show o+(i:Int).toNat*6+j=o+(6*i+j) by omega];exact hc
theorem WjE {a b:Sl}{l:List U6}(ha:SlR a 6 (usV l) σ F)(hb:SlR b 6 (usV l) σ G)(hl:l.length<=1000000){R:Bool->Hp->Prop}(hR:R true σ):XD.c a b σ R:=by
 refine XD.o ?_;unfold XD.v;have h1:=ha.1;have h2:=hb.1;rw[WcJ]at h1 h2;have hal:a.len=l.length:=by omega
 have hbl:b.len=l.length:=by omega
 refine ifF (by rw[hal,hbl];simp) (Zw (a:=.i .i64) (λ(i:Int) w=>w=σ/\∃k:Nat,i=k/\k<=l.length) (λi _=>l.length-i.toNat) ⟨rfl,0,rfl,by omega⟩ ?_);rintro(i:Int) w ⟨rfl,k,rfl,hk⟩;refine ifD (λhlt=>?_) λhge=>hR;have hg:l[k]?=some (l[k]'(by omega)):=gGe _;generalize (l[k]'(by omega))=r at hg;refine WkA ha hg λb1 o1 c1=>ldI0 (c1 0 _ rfl) (ldI0 (c1 1 _ rfl) (ldI0 (c1 2 _ rfl) (ldI0 (c1 3 _ rfl) (ldI0 (c1 4 _ rfl) (ldI0 (c1 5 _ rfl) ?_)))));refine WkA hb hg λb2 o2 c2=>ldI0 (c2 0 _ rfl) (ldI0 (c2 1 _ rfl) (ldI0 (c2 2 _ rfl) (ldI0 (c2 3 _ rfl) (ldI0 (c2 4 _ rfl) (ldI0 (c2 5 _ rfl) ?_)))));exact ifF (by simp) (arN (m:=k+1) (by omega) (by omega) ⟨⟨rfl,k+1,rfl,by omega⟩,by omega⟩)
attribute [local irreducible] w0 wm nxt tb8
set_option maxRecDepth 8000 in
theorem GK (gl:Gl σ)(gd:Gd σ){R:Bool->Hp->Prop}(hR:∀σ',Ext0 σ σ'->R true σ'):WF.c σ R:=by
 refine WF.o ?_;unfold WF.v;refine Whs gl gd λv L N e hsN hNv h0=>ifF rfl ?_;have hn:=Wlt;have hc0:w0.cf.pages=64:=by have:=hn.pg;omega
 refine Wjc e h0.cut hn.hi hn.cf hn.ph (by omega) (λb hb=>⟨by have:N<=b:=hb.1;omega,hb.2⟩) (WkM gl gd) λw mb am e1 _ _ p=>?_;refine JnB.intro (ifF rfl (ifF rfl ?_));refine Wei p WkB (by decide) 0 20 8 λa er w2 ts H' held' s0' P' e2 p2 hP2 k2 me hw=>?_;obtain⟨rfl,rfl,rfl⟩:=hw.det wm_w;generalize hy:me0.mal 4096 20 0 (wm.1.sp.st.count 2)=y at p2;have hys:y.sum=20/\y.mallocs=1/\y.asked=[(4096,20)]:=by subst hy;exact⟨rfl,rfl,rfl⟩
 obtain⟨y1,y2,y3⟩:=hys;refine WdW p2 λw3 e3 so=>?_;have hgv:Wcs wm.1.live=24:=by rw[WgL];rfl
 rw[y1,y2,hgv];have p3:=p2.fr e3;refine nw (cs:=Gb) λw4 hz4 e4 b4=>?_;unfold Gb at b4;refine b4.s1 (by simp) λv1 o1 b1=>b1.s1 (by simp) λv2 o2 b2=>b2.s1 (by simp) λv3 o3 b3=>b3.s1 (by simp) λv4 o4 b4=>b4.s1 (by simp) λv5 o5 b5=>b5.s1 (by simp) λv6 o6 b6=>b6.s1 (by simp) λv7 o7 b7=>b7.s1 (by simp) λv8 o8 b8=>b8.s1 (by simp) λv9 o9 b9=>b9.s1 (by simp) λv10 o10 b10=>?_;have eo:Ext (· = w3.size) w4 v10:=((((((((o1.ext.trans o2.ext).trans o3.ext).trans o4.ext).trans o5.ext).trans o6.ext).trans o7.ext).trans o8.ext).trans o9.ext).trans o10.ext;have e10:Ext0 w3 v10:=Ext.fresh e4 eo λi (hi:i=w3.size)=>by omega
 have p10:=p3.fr e10;refine Wbz p10.h p10.h.tb40 λtab v11 e11 htab=>Wdh (He htab) 20 8 λv12 e12=>?_;rw[Wln,wm_b];have b12:=(e11.trans e12).blk b10 id;refine JnB.intro (ifT rfl (b12.rI rfl (JnB.intro (ifT rfl (b12.rI rfl (JnB.intro (ifT rfl (b12.rI rfl (JnB.intro (ifT rfl ?_))))))))));have p12:=(p10.fr e11).fr e12;refine WhE p12 ?_ λs v13 bs e13 hl hrow=>?_
 ·subst hy;exact WkB.mal rfl (by decide) (by decide) (λ_=>by decide) wm_d
 rw[WgL]at hl;have hbs:bs=[(4096,24,2,0)]:=by
  have h1:=hl.len;obtain⟨b,rfl⟩:=List.length_eq_one_iff.1 (show bs.length=1 from h1);have h2:=(hl.mem b).1 (by simp);simp only[zR,Prod.mk.injEq]at h2;rw[h2.2]
 rw[hbs,y3,Wln,wm_u]at hrow;refine nw (cs:=[.int .i64 2,.int .i64 24,.int .i64 1,.int .i64 24,.int .i64 20,.int .i64 1]) λv14 hz14 e14 b14=>?_;have hs1:SlR s 6 (usV [(2,24,1,24,20,1)]) v14 (λb=>v12.size<=b):=RowR.slR ((RowR.loc _ _ _).keep0 hrow e14);have hs2:SlR ⟨some ⟨v13.size,0,none⟩,1,1⟩ 6 (usV [(2,24,1,24,20,1)]) v14 (λb=>True):=⟨rfl,.inr ⟨v13.size,0,_,trivial,rfl,b14.q,λj _=>by rw[zG];rfl⟩⟩;refine WjE hs1 hs2 (by simp) (JnB.intro (ifT rfl (JnB.intro (ifT rfl ?_))));exact hR v14 ((p12.fr e13).fr e14).e
end Go.Ar
namespace Go.Proofs
open Go.Vc
set_option maxRecDepth 100000
end Go.Proofs
namespace Go.Ar
open Go Go.Vc Go.Proofs
open Go.Bu (isPow)
variable {σ v w:Hp}{s:Sl}{xs:List (Int×Int×Int)}
def powB (n:Int):Bool:=decide (1<=n)&&(decide (n<=256)&&isPow n)
theorem Wdu (n:Int):powB n=true↔∃k:Nat,k<=8/\n=((2^k:Nat):Int):=by
 unfold powB isPow;simp only[zF,zN,zl,zW,zS];constructor
 ·rintro⟨h1,h2,k,hk,rfl⟩;refine⟨k,?_,rfl⟩;by_cases h:k<=8
  ·exact h
  ·have:=zAI (n:=2) (by omega) (show 9<=k by omega);omega
 ·rintro⟨k,hk,rfl⟩;have h1:=zAI (n:=2) (by omega) hk;have h2:=Nat.pow_pos (a:=2) (n:=k) (by omega);exact⟨by omega,by omega,k,by omega,rfl⟩
theorem Wiw {K:Int->Hp->Prop}(n p:Int){k:Nat}(hp:p=((2^k:Nat):Int))(hk:k<=9):(p<=256->k<=8)/\(¬p<=256->k=9)/\p<=512/\1<=p:=by
 subst hp;have h1:=zAI (n:=2) (by omega) hk;have h2:=Nat.pow_pos (a:=2) (n:=k) (by omega);refine⟨λh=>?_,λh=>?_,by omega,by omega⟩
 ·by_cases h8:k<=8
  ·exact h8
  ·have:=zAI (n:=2) (by omega) (show 9<=k by omega);omega
 ·by_cases h8:k<=8
  ·have:=zAI (n:=2) (by omega) h8;omega
  ·omega
theorem Wka {n:Int}(h:∀j:Nat,j<9->n≠((2^j:Nat):Int)):powB n=false:=by
 rw[←zBJ,Wdu];rintro⟨k,hk,e⟩;exact h k (by omega) e
theorem WdX (n:Int){R:Bool->Hp->Prop}(hR:R (powB n) σ):Xm.c n 256 σ R:=by
 refine Xm.o ?_;unfold Xm.v;refine Zw (a:=.i .i64) (λ(p:Int) w=>w=σ/\∃k:Nat,k<=9/\p=((2^k:Nat):Int)/\∀j:Nat,j<k->n≠((2^j:Nat):Int)) (λp _=>1024-p.toNat) ⟨rfl,0,by omega,rfl,λj hj=>by omega⟩ ?_;rintro(p:Int) w ⟨rfl,k,hk,hp,hj⟩;obtain⟨s1,s2,s3,s4⟩:=Wiw (K:=λ_ _=>True) n p hp hk;refine ifD (λhle=>iff_ (λhe=>?_) λhe=>?_) λhgt=>?_
 ·have he:p=n:=by simpa using he
  have:powB n=true:=(Wdu n).2 ⟨k,s1 hle,he.symm.trans hp⟩;rw[this]at hR;exact hR
 ·have he:p≠n:=by simpa using he
  have h2:((2^(k+1):Nat):Int)=2*p:=by rw[hp,zAN];omega
  refine ar (by omega) (by omega) ⟨⟨rfl,k+1,by have:=s1 hle;omega,h2.symm,λj hj'=>?_⟩,by omega⟩;by_cases h:j=k
  ·subst h;rw[←hp];exact λh=>he h.symm
  ·exact hj j (by omega)
 ·have:=s2 hgt;subst this;rw[Wka hj]at hR;exact hR
theorem Wg3 (x y z:Int){R:Bool->Hp->Prop}(hR:∀σ',Ext0 σ σ'->R (QP x y z) σ'):Xh.c x y z σ R:=by
 refine Xh.o ?_;unfold Xh.v;refine nw (cs:=[.int .i64 x,.int .i64 y,.int .i64 z]) λv hz e hb=>hb.rI rfl ?_;have hv:=hR v e;have hdef:QP x y z=(decide (8<=x)&&(decide (x<=512)&&(decide (x%8=0)&&(decide (1<=y)&&(decide (y<=4)&&(decide (x<=y*256)&&(decide (1<=z)&&decide (z<=32)))))))):=rfl;have no:∀{P:Prop},P->(P->QP x y z=false)->R false v:=λh hf=>by rw[hf h]at hv;exact hv
 have ff:¬(8<=x/\x<=512/\x%8=0/\1<=y/\y<=4/\x<=y*256/\1<=z/\z<=32)->R false v:=λh=>no h λh=>by rw[←zBJ,QO];exact h
 have tt:(8<=x/\x<=512/\x%8=0/\1<=y/\y<=4/\x<=y*256/\1<=z/\z<=32)->R true v:=λh=>by rw[(QO x y z).2 h]at hv;exact hv
 clear hv hdef no;refine Kc (λr w=>v=w/\r=decide (8<=x/\x<=512)) (λr w ⟨hw,hr⟩=>?_) λJ hJ=>ifD (λh=>hb.rI rfl (hJ _ _ ⟨rfl,by rw[decide_eq_decide];omega⟩)) λh=>hJ _ _ ⟨rfl,(zT (by omega)).symm⟩;subst hw;refine Kc (λr w=>v=w/\r=decide (8<=x/\x<=512/\x%8=0)) (λr w ⟨hw,hr⟩=>?_) λJ hJ=>iff_ (λh=>hb.rI rfl (nz (by decide) (hJ _ _ ⟨rfl,?_⟩))) λh=>hJ _ _ ⟨rfl,by rw[hr]at h;have:=zAW h;exact(zT (by omega)).symm⟩
 ·subst hw;refine Kc (λr w=>v=w/\r=decide (8<=x/\x<=512/\x%8=0/\1<=y)) (λr w ⟨hw,hr⟩=>?_) λJ hJ=>iff_ (λh=>hb.rI rfl (hJ _ _ ⟨rfl,by rw[hr]at h;have:=zAS h;rw[decide_eq_decide];omega⟩)) λh=>hJ _ _ ⟨rfl,by rw[hr]at h;have:=zAW h;exact(zT (by omega)).symm⟩;subst hw;refine Kc (λr w=>v=w/\r=decide (8<=x/\x<=512/\x%8=0/\1<=y/\y<=4)) (λr w ⟨hw,hr⟩=>?_) λJ hJ=>iff_ (λh=>hb.rI rfl (hJ _ _ ⟨rfl,by rw[hr]at h;have:=zAS h;rw[decide_eq_decide];omega⟩)) λh=>hJ _ _ ⟨rfl,by rw[hr]at h;have:=zAW h;exact(zT (by omega)).symm⟩;subst hw;refine Kc (λr w=>v=w/\r=decide (8<=x/\x<=512/\x%8=0/\1<=y/\y<=4/\x<=y*256)) (λr w ⟨hw,hr⟩=>?_) λJ hJ=>iff_ (λh=>hb.rI rfl ?_) λh=>hJ _ _ ⟨rfl,by rw[hr]at h;have:=zAW h;exact(zT (by omega)).symm⟩
  ·subst hw;refine Kc (λr w=>v=w/\r=decide (8<=x/\x<=512/\x%8=0/\1<=y/\y<=4/\x<=y*256/\1<=z)) (λr w ⟨hw,hr⟩=>?_) λJ hJ=>iff_ (λh=>hb.rI rfl (hJ _ _ ⟨rfl,by rw[hr]at h;have:=zAS h;rw[decide_eq_decide];omega⟩)) λh=>hJ _ _ ⟨rfl,by rw[hr]at h;have:=zAW h;exact(zT (by omega)).symm⟩;subst hw;refine Kc (λr w=>v=w/\r=decide (8<=x/\x<=512/\x%8=0/\1<=y/\y<=4/\x<=y*256/\1<=z/\z<=32)) (λr w ⟨hw,hr⟩=>?_) λJ hJ=>iff_ (λh=>hb.rI rfl (hJ _ _ ⟨rfl,by rw[hr]at h;have:=zAS h;rw[decide_eq_decide];omega⟩)) λh=>hJ _ _ ⟨rfl,by rw[hr]at h;have:=zAW h;exact(zT (by omega)).symm⟩;subst hw;rw[hr];by_cases hh:8<=x/\x<=512/\x%8=0/\1<=y/\y<=4/\x<=y*256/\1<=z/\z<=32
   ·rw[zQ hh];exact tt hh
   ·rw[zT hh];exact ff hh
  ·rw[hr]at h;have:=zAS h;exact ar (by omega) (by omega) (hb.rI rfl (hJ _ _ ⟨rfl,by rw[decide_eq_decide];omega⟩))
 ·rw[hr]at h;have:=zAS h;rw[Qw (by omega)];rw[zBF,zS,zN];omega
theorem Wkt (ha:Acts σ s xs){i:Nat}{x y z:Int}(hx:xs[i]?=some (x,y,z)){K:Int->Int->Int->Prop}(hK:K x y z) :
 Ix s.a s.len (i:Int) 3 λa=>LdH (λm=>Ext0 σ m) (.i .i64) (a.add 0) λu=>LdH (λm=>Ext0 σ m) (.i .i64) (a.add 1) λv=>LdH (λm=>Ext0 σ m) (.i .i64) (a.add 2) λw=>K u v w:=by
 have hi:=(gSi.1 hx).1;obtain⟨hl,h⟩:=ha;obtain⟨b,o,h1,_,h3,h4,h5⟩:=h i x y z hx;rw[h1];refine ix (by omega) (by omega) ?_;rw[add_lit];have g3:cell σ ⟨b,o+(i:Int).toNat*3+0,none⟩=some (.int .i64 x):=by simpa using h3
 have g4:cell σ ⟨b,o+(i:Int).toNat*3+1,none⟩=some (.int .i64 y):=by simpa using h4
 have g5:cell σ ⟨b,o+(i:Int).toNat*3+2,none⟩=some (.int .i64 z):=by simpa using h5
 exact⟨x,λm hm=>by rw[add_lit,ZD hm (ZB g3) id];exact g3,⟨y,λm hm=>by rw[add_lit,ZD hm (ZB g4) id];exact g4,⟨z,λm hm=>by rw[add_lit,ZD hm (ZB g5) id];exact g5,hK⟩⟩⟩
set_option maxRecDepth 8000 in
theorem We4 (ha:Acts σ s xs){R:Bool->Hp->Prop}(hR:∀σ',Ext0 σ σ'->R (Zm xs) σ'):Xk.c s σ R:=by
 refine Xk.o ?_;unfold Xk.v;have no:∀σ',Ext0 σ σ'->¬(1<=xs.length/\xs.length<=40/\(∀(i:Nat) t,xs[i]?=some t->QP t.1 t.2.1 t.2.2=true)/\∀(i:Nat) a b,xs[i]?=some a->xs[i+1]?=some b->a.1<b.1)->R false σ':=λσ' e hn=>by
  have:=hR σ' e;have hf:Zm xs=false:=by rw[←zBJ,Zi];exact hn
  rw[hf]at this;exact this
 have hlen:=ha.1;refine JnB.intro (ifD (λc1=>ifT rfl (no σ (Ext.refl _ _) λh=>by omega)) λc1=>?_);refine ifD (λc2=>no σ (Ext.refl _ _) λh=>by omega) λc2=>?_;refine Zw (a:=.i .i64) (λ(t:Int) v=>∃i:Nat,t=(i:Int)/\i<=xs.length/\Ext0 σ v/\(∀(j:Nat) t,j<i->xs[j]?=some t->QP t.1 t.2.1 t.2.2=true)/\∀(j:Nat) a b,j+1<i->xs[j]?=some a->xs[j+1]?=some b->a.1<b.1) (λt _=>xs.length-t.toNat)
  ⟨0,rfl,by omega,Ext.refl _ _,λj t h=>by omega,λj a b h=>by omega⟩ ?_
 rintro(t:Int) v ⟨i,rfl,hi,e,h1,h2⟩;have hav:=Xb ha e;refine ifD (λhlt=>?_) λhge=>?_
 ·have hi':i<xs.length:=by omega
  have hx:xs[i]?=some xs[i]:=gGe hi';generalize xs[i]=r at hx;obtain⟨x,y,z⟩:=r;refine Wkm (λr w=>Ext0 σ w/\(r=true->¬(1<=xs.length/\xs.length<=40/\(∀(i:Nat) t,xs[i]?=some t->QP t.1 t.2.1 t.2.2=true)/\∀(i:Nat) a b,xs[i]?=some a->xs[i+1]?=some b->a.1<b.1))/\(r=false->QP x y z=true/\∀a,0<i->xs[i-1]?=some a->a.1<x)) (λr w ⟨ew,hr1,hr2⟩=>?_) λJ hJ=>?_
  ·refine iff_ (λhr=>no w ew (hr1 hr)) λhr=>?_;obtain⟨q1,q2⟩:=hr2 hr;refine arN (m:=i+1) (by omega) (by omega) ⟨⟨i+1,rfl,by omega,ew,λj t hj ht=>?_,λj a b hj ha' hb'=>?_⟩,by omega⟩
   ·by_cases h:j=i
    ·subst h;rw[hx]at ht;cases ht;exact q1
    ·exact h1 j t (by omega) ht
   ·by_cases h:j+1=i
    ·subst h;rw[hx]at hb';cases hb';exact q2 a (by omega) (by rw[zGK];exact ha')
    ·exact h2 j a b (by omega) ha' hb'
  ·refine⟨λm=>Ext0 v m,Ext.refl _ _,Wkt hav hx (Wg3 x y z λw ew=>?_)⟩;have eW:=e.trans ew;have haw:=Xb hav ew;cases hc:QP x y z with
   | false=>
    refine ifT rfl (hJ _ _ ⟨eW,λ_ hv=>?_,λh=>by cases h⟩);have:=hv.2.2.1 i _ hx;simp only at this;rw[hc]at this;cases this
   | true=>
    refine ifF rfl (ifD (λhpos=>?_) λhnp=>?_)
    ·have hp:xs[i-1]?=some (xs[i-1]'(by omega)):=gGe _;generalize (xs[i-1]'(by omega))=pr at hp;obtain⟨x0,y0,z0⟩:=pr;refine arN (m:=i-1) (by omega) (by omega) ?_;have fin:J (decide (x0≥x)) w:=hJ _ _ ⟨eW,λh hv=>by
      have h:=zAS h;have:=hv.2.2.2 (i-1) _ _ hp (by rw[Nat.sub_add_cancel (by omega)];exact hx);simp only at this;omega,λh=>⟨hc,λa _ ha'=>by
      have h:=zAW h;rw[hp]at ha';cases ha';simp only;omega⟩⟩
     obtain⟨hl,hcell⟩:=haw;obtain⟨b,o,g1,_,g2,_⟩:=hcell i x y z hx;obtain⟨b',o',k1,_,k2,_⟩:=hcell (i-1) x0 y0 z0 hp;rw[g1]at k1;simp only[Option.some.injEq,Addr.mk.injEq]at k1;obtain⟨rfl,rfl,_⟩:=k1;rw[g1];have l1:∀{K:Int->Prop},K x0->LdI .i64 (Addr.add (Addr.add ⟨b,o,none⟩ (((i-1:Nat):Int).toNat*3)) 0) w K:=λhK=>ldI (by rw[add_lit,add_lit];simpa using k2) hK;have l2:∀{K:Int->Prop},K x->LdI .i64 (Addr.add (Addr.add ⟨b,o,none⟩ ((i:Int).toNat*3)) 0) w K:=λhK=>ldI (by rw[add_lit,add_lit];simpa using g2) hK;exact ix (by omega) (by omega) (ix (by omega) (by omega) ⟨l1 (l2 fin),l2 (l1 fin)⟩)
    ·exact hJ _ _ ⟨eW,(λh=>by cases h),λ_=>⟨hc,λa h=>by omega⟩⟩
 ·have hii:i=xs.length:=by omega
  subst hii;have hv:Zm xs=true:=(Zi xs).2 ⟨by omega,by omega,λi t ht=>h1 i t (gSi.1 ht).1 ht,λi a b ha' hb'=>h2 i a b (gSi.1 hb').1 ha' hb'⟩;have:=hR v e;rw[hv]at this;exact this
theorem Hq (size align:Int):Z7 size align=(decide (1<=size)&&powB align):=rfl
theorem Wj9 {xs:List (Int×Int×Int)}{i:Nat}{x y z:Int}(hx:xs[i]?=some (x,y,z))(hok:QP x y z=true):(xs.map YC)[i]?=some (YC (x,y,z))/\((YC (x,y,z)).size:Int)=x:=by
 refine⟨by rw[za,hx];rfl,?_⟩;rw[QO]at hok;simp only[YC];omega
set_option maxRecDepth 8000 in
theorem Wgq (ha:Acts σ s xs)(hv:Zm xs=true)(size align:Int){R:Int->Int->Hp->Prop}
 (hR:∀σ',Ext0 σ σ'->R (if Z7 size align then((clsV (xs.map YC) size align).getD 0:Nat)else 0) (if Z7 size align then(if(clsV (xs.map YC) size align).isSome then 0 else 4)else 1) σ'):Xn.c s size align σ R:=by
 refine Xn.o ?_;unfold Xn.v;refine We4 ha λv e=>?_;rw[hv];refine ifF rfl ?_;have ha1:=Xb ha e;have hlen:=ha.1;have hval:=(Zi xs).1 hv;have hRv:=hR v e;refine Kc (λr w=>v=w/\r = !Z7 size align) (λr w ⟨hw,hr⟩=>?_) λJ hJ=>ifD (λh=>hJ _ _ ⟨rfl,?_⟩) λh=>WdX align (hJ _ _ ⟨rfl,?_⟩)
 ·subst hw;refine iff_ (λht=>?_) λhf=>?_
  ·have hno:Z7 size align=false:=by rw[hr]at ht;simpa using ht
   rw[hno]at hRv;exact hRv
  ·have hyes:Z7 size align=true:=by rw[hr]at hf;simpa using hf
   rw[hyes]at hRv;simp only[zP]at hRv;have hal:1<=align:=by rw[Hq]at hyes;simp only[powB,zF,zN]at hyes;exact hyes.2.1
   generalize hq:(λc:Cls=>decide (size<=(c.size:Int))&&((c.size:Int)%align==0))=q;have hcl:clsV (xs.map YC) size align=(xs.map YC).findIdx? q:=by rw[←hq];rfl
   refine Zw (a:=.i .i64) (λ(t:Int) w=>∃i:Nat,t=(i:Int)/\i<=xs.length/\w=v/\∀(j:Nat) c,j<i->(xs.map YC)[j]?=some c->q c=false) (λt _=>xs.length-t.toNat) ⟨0,rfl,by omega,rfl,λj c h=>by omega⟩ ?_;rintro(t:Int) w ⟨i,rfl,hi,rfl,h1⟩;refine ifD (λhlt=>?_) λhge=>?_
   ·have hi':i<xs.length:=by omega
    have hx:xs[i]?=some xs[i]:=gGe hi';generalize xs[i]=r at hx;obtain⟨x,y,z⟩:=r;have hok:=hval.2.2.1 i _ hx;simp only at hok;obtain⟨hc,hsz⟩:=Wj9 hx hok;generalize YC (x,y,z)=c at hc hsz;have hx8:=((QO x y z).1 hok).1;have hqc:q c=(decide (size<=x)&&(x%align==0)):=by rw[←hq];simp only[hsz]
    have next:q c=false->∀(j:Nat) c',j<i+1->(xs.map YC)[j]?=some c'->q c'=false:=λhf j c' hj hc'=>by
     by_cases h:j=i
     ·subst h;rw[hc]at hc';cases hc';exact hf
     ·exact h1 j c' (by omega) hc'
    have stop:q c=true->R (i:Int) 0 w:=λht=>by
     have:(xs.map YC).findIdx? q=some i:=by
      rw[zAU];have hil:i<(xs.map YC).length:=by simpa using hi'
      refine⟨hil,?_,λj hj=>?_⟩
      ·have:=gGe hil;rw[hc]at this;cases this;exact ht
      ·have:=h1 j _ hj (gGe (by omega));rw[this];simp
     rw[hcl,this]at hRv;exact hRv
    refine War ha1 hx (Kc (λr w'=>w=w'/\r=q c) (λr w' ⟨hw,hr⟩=>?_) λJ hJ=>ifD (λh=>War ha1 hx (nz (by omega) (hJ _ _ ⟨rfl,?_⟩))) λh=>hJ _ _ ⟨rfl,?_⟩)
    ·subst hw;rw[hr];exact iff_ stop λhf=>arN (m:=i+1) (by omega) (by omega) ⟨⟨i+1,rfl,by omega,rfl,next hf⟩,by omega⟩
    ·rw[hqc,Qw (by omega),zQ (show size<=x by omega)];rfl
    ·rw[hqc,zT (show ¬size<=x by omega)];rfl
   ·have hii:i=xs.length:=by omega
    subst hii;have:(xs.map YC).findIdx? q=none:=by
     rw[zCP];intro c hc;obtain⟨j,hj⟩:=zL hc;exact h1 j c (by have:=(gSi.1 hj).1;simpa using this) hj
    rw[hcl,this]at hRv;exact hRv
 ·rw[Hq,zT (by omega)];rfl
 ·rw[Hq,zQ (by omega)];rfl
theorem Wjk {c:Cls}(hc:c.ok){R:Int->Hp->Prop}(hR:∀σ',Ext0 σ σ'->R (c.n:Int) σ'):Wx.c c.size c.pages c.batch σ R:=by
 have h1:=hc.1;have h2:=hc.2.1;have h3:=hc.2.2.2.1;have h4:=hc.2.2.2.2.1;refine WcS ((c.size:Int),(c.pages:Int),(c.batch:Int)) (by simp only;omega) (by simp only;omega) (by simp only;omega) (by simp only;omega) λw e=>?_;have:mObj ((c.size:Int),(c.pages:Int),(c.batch:Int))=(c.n:Int):=by unfold mObj Cls.n;simp
 rw[this];exact hR w e
end Go.Ar
namespace Go.Ar
open Go Go.Vc Go.Proofs
open Go.Vc (mget mset mdel)
variable {σ w w':Hp}{F P Q X:Rg}{L:LayH}{H H':Hw}{held:List Pc}{s0:Sp}{t n:Nat}{g:Th}{σ0:Hp}{addrs:Sl}{ad:List Int}{l:Sl}{ds:List Deed}
theorem PlayOk.push (p:PlayOk σ0 σ L H held s0 P Q addrs ad){s':Sl}{x:Int}(e:Ext Q σ w)(hr:RowR s' 1 (Wt (ad++[x])) w (λb=>Q b\/σ.size<=b/\b<w.size))(hl:(ad++[x]).length<=60):PlayOk σ0 w L H held s0 P (λb=>Q b\/σ.size<=b/\b<w.size) s' (ad++[x]):=by
 have hz:=e.1;have hz0:=p.e.1;refine⟨Ext.newT p.e e λb hb=>.inr (p.pQ b hb).1,p.h.keep e (λb hb hp hq=>(p.pQ b hq).2.2 hp) (λb hb=>p.g0.1 b (p.pQ b hb).1) (λhb=>p.g0.2 (p.pQ _ hb).1),p.hi,p.cf,p.pg,λb hb=>⟨(p.pP b hb).1,by have:=(p.pP b hb).2;omega⟩,λb hb=>?_,hr,hl,p.g0⟩;rcases hb with hb|hb
 ·exact⟨(p.pQ b hb).1,by have:=(p.pQ b hb).2.1;omega,(p.pQ b hb).2.2⟩
 ·exact⟨by omega,hb.2,λhp=>by have:=(p.pP b hp).2;omega⟩
theorem Wjz {tb:List Cls}{size align:Int}{k:Nat}(h:clsV tb size align=some k):∃c,tb[k]?=some c/\size<=(c.size:Int)/\(c.size:Int)%align=0:=by
 unfold clsV at h;obtain⟨hk,hp,_⟩:=zAU.1 h;simp only[zF,zN,zS]at hp;exact⟨tb[k],gGe hk,hp.1,hp.2⟩
end Go.Ar
namespace Go.Proofs
open Go.Vc
set_option maxRecDepth 100000
end Go.Proofs
namespace Go.Proofs
open Go.Vc
set_option maxRecDepth 100000
def WL.h:Hn:=.q .o1 (.q .o7 (.q (.q .o2 (.c (.q .o2 .l) .l)) (.q .o9 (.q .o9 (.q (.q .o2 (.c (.q .o2 .l) .l)) (.q .o6 (.q .o3 (.q (.reg (.heldJ true [] [(6,.one .b)] (.take 0 (.take 1 (.take 2 (.split 48 (.take 3 (.take 4 (.take 5 (.take 6 (.take 7 (.take 8 (.take 9 (.take 10 (.split 56 (.take 11 (.take 12 (.take 13 (.take 14 (.take 15 (.take 16 (.take 17 (.take 18 (.take 19 (.take 20 (.split 66 (.take 21 (.take 22 (.take 23 (.take 24 (.take 25 (.take 26 (.take 27 (.take 28 (.take 29 (.take 30 (.take 31 (.take 32 (.take 33 (.take 34 (.take 35 (.take 36 (.take 37 (.take 38 (.take 39 (.take 40 (.take 41 (.take 42 (.split 88 (.all [(43,.take 44 (.take 45 (.done)))]) (.take 43 (.take 44 (.take 45 (.done))))))))))))))))))))))))))) (.take 21 (.take 22 (.take 23 (.take 24 (.take 25 (.take 26 (.take 27 (.take 28 (.take 29 (.take 30 (.take 31 (.take 32 (.take 33 (.take 34 (.take 35 (.take 36 (.take 37 (.take 38 (.take 39 (.take 40 (.take 41 (.take 42 (.take 43 (.take 44 (.take 45 (.done))))))))))))))))))))))))))))))))))))) (.take 11 (.take 12 (.take 13 (.take 14 (.take 15 (.take 16 (.take 17 (.take 18 (.take 19 (.take 20 (.take 21 (.take 22 (.take 23 (.take 24 (.take 25 (.take 26 (.take 27 (.take 28 (.take 29 (.take 30 (.take 31 (.take 32 (.take 33 (.take 34 (.take 35 (.take 36 (.take 37 (.take 38 (.take 39 (.take 40 (.take 41 (.take 42 (.take 43 (.take 44 (.take 45 (.done))))))))))))))))))))))))))))))))))))))))))))) (.take 3 (.take 4 (.take 5 (.take 6 (.take 7 (.take 8 (.take 9 (.take 10 (.take 11 (.take 12 (.take 13 (.take 14 (.take 15 (.take 16 (.take 17 (.take 18 (.take 19 (.take 20 (.take 21 (.take 22 (.take 23 (.take 24 (.take 25 (.take 26 (.take 27 (.take 28 (.take 29 (.take 30 (.take 31 (.take 32 (.take 33 (.take 34 (.take 35 (.take 36 (.take 37 (.take 38 (.take 39 (.take 40 (.take 41 (.take 42 (.take 43 (.take 44 (.take 45 (.done)))))))))))))))))))))))))))))))))))))))))))))))))) .l))))))))
def WL.v (a b c:Int)(d:Hp)(e:Bool->Hp->Prop):Prop:=WE.c a d λf g h=>If (g != 0) (WF.c h λi j=>e i j) (Xn.c f b c h λk l m=>Zp.c f b c m λn o p=>If (l != 0) (WF.c p λq r=>e q r) (Ix f.a f.len k 3 λs=>LdI .i64 (s.add 0) p λt=>LdI .i64 (s.add 1) p λu=>LdI .i64 (s.add 2) p λv=>Nw (.cells #[.I 0,.I 0,.I 0] 31 (0,0)) p λw x=>St1 (w.add 0) (.I t) x λy=>St1 (w.add 1) (.I u) y λz=>St1 (w.add 2) (.I v) z λaa=>LdI .i64 (w.add 0) aa λab=>LdI .i64 (w.add 1) aa λac=>LdI .i64 (w.add 2) aa λad=>Wx.c ab ac ad aa λae af=>Jn [.b] (λ(ag:Bool) ah=>e ag ah) λai=>Held af λaj=>If (o==0) (LdH aj (.i .i64) (w.add 0) λ(ak:Int)=>Ar .i64 (ak-b) λal=>If (n≥al) (LdH aj (.i .i64) (w.add 0) λ(am:Int)=>LdH aj (.i .i64) (w.add 1) λ(an:Int)=>Ar .i64 (an*256) λao=>Ar .i64 (am+ao) λap=>If (n<ap) (LdH aj (.i .i64) (w.add 0) λ(aq:Int)=>Ar .i64 (aq-b) λar=>LdH aj (.i .i64) (w.add 1) λ(au:Int)=>Ar .i64 (au*256) λav=>LdH aj (.i .i64) (w.add 0) λ(aw:Int)=>Ar .i64 (ae*aw) λax=>Ar .i64 (av-ax) λay=>Ar .i64 (ay+ae) λaz=>Ar .i64 (az-1) λa0=>Nz ae<|Ar .i64 (a0.tdiv ae) λa1=>Ar .i64 (ar+a1) λa2=>If (n==a2) (WF.c af λa3 a4=>And (aj a4) <| ai a3 a4) (ai false af)) (ai false af)) (ai false af)) (ai false af)))
theorem WL.o {a b c d e}(f:WL.v a b c d e):WL.c a b c d e:=Wa Tryz.func4 (x:=WL.h) (R0 f)
end Go.Proofs
namespace Go.Ar
open Go Go.Vc Go.Proofs
variable {σ v w:Hp}{s:Sl}{xs:List (Int×Int×Int)}
set_option maxRecDepth 8000 in
theorem WdZ (gl:Gl σ)(gd:Gd σ)(waste size align:Int){R:Bool->Hp->Prop}(hR:∀σ',Ext0 σ σ'->R true σ'):WL.c waste size align σ R:=by
 refine WL.o ?_;unfold WL.v;have aw:∀w,Ext0 σ w->∀{R':Bool->Hp->Prop},(∀q,Ext0 w q->R' true q)->WF.c w R':=λw e R' h=>GK (gl.keep0 e) (gd.keep0 e) h;by_cases hw:2<=waste/\waste<=16
 ·refine WfA waste hw.1 hw.2 λs v e ha=>ifF rfl ?_;have hv:Zm (UT waste)=true:=by
   have:=Up waste.toNat (by omega) (by omega);rw[show((waste.toNat:Nat):Int)=waste by omega]at this;exact this
  refine Wgq ha hv size align λv2 e2=>?_;have ha2:=Xb ha e2;refine Wdh ha2 size align λv3 e3=>?_;have ha3:=Xb ha2 e3;have e03:=(e.trans e2).trans e3;by_cases hok:Z7 size align=true
  ·rw[hok];simp only[zP];cases hcl:clsV ((UT waste).map YC) size align with
   | none=>exact ifT rfl (aw v3 e03 λq eq=>hR q (e03.trans eq))
   | some k=>
    refine ifF rfl ?_;obtain⟨c,hck,hcs,_⟩:=Wjz hcl;obtain⟨hx,hco⟩:=KP ha3 hv hck;obtain⟨b1,b2,b3,b4⟩:=GJ hco;have hsz:1<=size:=by simp only[Z7,zF,zN]at hok;exact hok.1
    have hc1:=hco.2.1;have hc2:=hco.2.2.2.1;have hc3:=hco.2.2.2.2.1;have hcd:((UT waste).map YC).getD k ⟨8,1,1⟩=c:=by rw[zO,hck];rfl
    obtain⟨q,hq⟩:∃q,(c.tail+c.n-1)/c.n=q:=⟨_,rfl⟩;have hbv:UP (UT waste) size align=((c.size:Int)-size+(q:Int),0):=by
     unfold UP;rw[hv,zB rfl,zB ⟨by omega,hok⟩,hcl];simp only[hcd];unfold WgN;rw[hq]
    rw[hbv];have hm:c.n*c.size<=c.pages*256:=zDT _ _;have htl:c.tail=c.pages*256-c.n*c.size:=rfl;have hqt:q<=c.tail+c.n-1:=by rw[←hq];exact Nat.div_le_self _ _
    have hq4:q<c.pages*256:=by
     have h1:c.tail<c.pages*256:=by have:=hco.1;have:1*8<=c.n*c.size:=zo b2 hco.1;omega
     rw[←hq];refine(Nat.div_lt_iff_lt_mul (by omega)).2 ?_;have:c.pages*256*c.n≥(c.tail+1)*c.n:=zAG _ h1;have h3:(c.tail+1)*c.n=c.tail*c.n+c.n:=by rw[zc,zED]
     have h4:c.tail*1<=c.tail*c.n:=Nat.mul_le_mul_left _ b2;omega
    simp only[zBY];refine K0 ha3 hx (nw (cs:=[.int .i64 0,.int .i64 0,.int .i64 0]) λu1 hz1 f1 d1=>d1.s1 (by simp) λu2 o2 d2=>d2.s1 (by simp) λu3 o3 d3=>d3.s1 (by simp) λu4 o4 d4=>?_);have f4:Ext0 v3 u4:=Ext.fresh (Ext.fresh (Ext.fresh f1 o2.ext λi hi=>by omega) o3.ext λi hi=>by omega) o4.ext λi hi=>by omega
    refine d4.rI rfl (d4.rI rfl (d4.rI rfl (Wjk hco λu5 f5=>?_)));have d5:=f5.blk d4 id;have e05:=(e03.trans f4).trans f5;refine Jn.intro ⟨λm=>Ext0 u5 m,Ext.refl _ _,ifT rfl (Blk.rH (c:=.i .i64) (y:=(c.size:Int)) d5 rfl (ar (by omega) (by omega) (ifT (zQ (by omega)) ?_)))⟩;refine Blk.rH (c:=.i .i64) (y:=(c.size:Int)) d5 rfl (Blk.rH (c:=.i .i64) (y:=(c.pages:Int)) d5 rfl (ar (by omega) (by omega) (ar (by omega) (by omega) (ifT (zQ (by omega)) ?_))));refine Blk.rH (c:=.i .i64) (y:=(c.size:Int)) d5 rfl (ar (by omega) (by omega) (Blk.rH (c:=.i .i64) (y:=(c.pages:Int)) d5 rfl (ar (by omega) (by omega) (Blk.rH (c:=.i .i64) (y:=(c.size:Int)) d5 rfl ?_))));refine arN (m:=c.n*c.size) (by simp) (by omega) (arN (m:=c.tail) (by omega) (by omega) (arN (m:=c.tail+c.n) (by omega) (by omega) (arN (m:=c.tail+c.n-1) (by omega) (by omega) (nz (by omega) (arN (m:=q) ?_ (by omega) (ar (by omega) (by omega) (ifT (by simp) ?_)))))))
    ·rw[YQ (by omega),←hq];exact(Int.natCast_ediv _ _).symm
    ·exact aw u5 e05 λq eq=>⟨eq,hR q (e05.trans eq)⟩
  ·have hno:Z7 size align=false:=by simpa using hok
   rw[hno];exact ifT rfl (aw v3 e03 λq eq=>hR q (e03.trans eq))
 ·exact Wis waste (by omega) (ifT rfl (GK gl gd hR))
end Go.Ar
namespace Go.Ar
open Go Go.Vc Go.Proofs Go.ChangeShapes Go.WideShapes Go.RowKit Go.Deep
theorem UO {H:Type}{enc:TypeId×Value->H}{P:Program}{w:World}{base:Nat}{sp:Nat->Bool}{held:Bool}{fuel:Nat}{t:TypeId}{c:Value}{y:DataW H×List MemPlace}
 (ht:P.underlying t=some .bool) (h:DataW.trod enc P w base sp held fuel t [c]=some y):∃n,c=.bool n/\y=(.lit (.bool n),[]):=by
 cases fuel with
 | zero=>simp[DataW.trod]at h
 | succ fuel=>
  cases c<;>simp[DataW.trod,ht]at h
  rename_i n;exact⟨n,rfl,by simpa using h.symm⟩
theorem WbL {P:Program}{w:World}{t:TypeId}{f0 f1:Field}{cs:Array Value}{fuel:Nat}{p:List MemPlace}{x y:Bool}(ht:P.underlying t=some (.struct #[f0,f1]))(hone:oneCellFields P #[f0,f1]=true)(hC:P.cellsOf t=2)
 (h0:P.underlying f0.type=some .bool) (h1:P.underlying f1.type=some .bool) (h:DataW.trod (λ_=>()) P w 0 (λ_=>true) false fuel t cs.toList=some (.agg [.lit (.bool x),.lit (.bool y)],p)):cs = #[.bool x,.bool y]:=by
 obtain⟨ys,n,hn,hy,hlen,hyl,hff⟩:=DataW.trod_struct ht h;obtain⟨l⟩:=cs;have hl2:l.length=2:=by rw[←hC];simpa using hlen
 match l,hl2 with
 | [c0,c1],_=>
  have k0:=hff 0 f0 rfl;have k1:=hff 1 f1 rfl;obtain⟨o0,q0⟩:=hone_of hone 0 f0 rfl;obtain⟨o1,q1⟩:=hone_of hone 1 f1 rfl;rw[o0,q0]at k0;rw[o1,q1]at k1
  match ys,hyl with
  | [y0,y1],_=>
   obtain⟨n0,rfl,e0⟩:=UO h0 (c:=c0) (y:=y0) (by simpa using k0);obtain⟨n1,rfl,e1⟩:=UO h1 (c:=c1) (y:=y1) (by simpa using k1);subst e0;subst e1;simp at hy;obtain⟨⟨rfl,rfl⟩,_⟩:=hy;rfl
theorem WaT {w:World}{a:Addr}{v:Value}(h:w.cell? a=some v):cell w.heap a=some v:=h
section
variable {H:Type}{enc:TypeId×Value->H}{P:Program}{w:World}
end
end Go.Ar