/- Texts joined. -/
import Derived.Shelf.SlSortCmp.NoneTotal
import Derived.Ground.SlsfProg
import Derived.Test.YtoeidadjhkkioaaGreatDoorProg
import Derived.Shelf.SlIterI.Nil
import Derived.Ground.GgzProg
import Derived.Test.YtoeidadjhkkioaaGreatDoorZ6
set_option linter.unusedVariables false
set_option linter.unusedSimpArgs false
namespace Go.Ar
open Go Go.Vc Go.Proofs
variable {U w:Hp}
def mG:Nat->Int->Int->List T3
 | 0,_,_=>[]
 | n+1,s,w=>if s<512 then k9 s w::mG n (s+vV s w) w else[]
def allM (w:Int):List T3:=mG 64 8 w++[k9 512 w]
def po (l:List T3)(i:Nat):Bool:=i==l.length-1||(match l[i]?,l[i+1]? with
 | some x,some y=>x.2.1 != y.2.1||mL x != mL y
 | _,_=>false)
def lW (l:List T3)(n:Nat):List T3:=(List.range n).filterMap λi=>if po l i then l[i]? else none
def se (w:Int):List T3:=lW (allM w) (allM w).length
def tP (x:T3):Prop:=8<=x.1/\x.1<=512/\1<=x.2.1/\x.2.1<=4
theorem DE (s w:Int)(h1:8<=s)(h2:s<=512):tP (k9 s w):=⟨h1,h2,T7 s w 4⟩
theorem sZ {Q:Rg}{s:Sl}{l:List T3}{e1 e2:Nat}(ho:Go.Vc.Own Q U s 3 (lA l))(hQ:∀b,U.size<=b->Q b)(hl:l.length<=1000)(x:T3){K:Sl->Hp->Prop}(hK:∀s' σ',Ext Q U σ'->Go.Vc.Own Q σ' s' 3 (lA (l++[x]))->K s' σ') :
 Nw (.cells #[.int .i64 x.1,.int .i64 x.2.1,.int .i64 x.2.2] e1 (0,0)) U λn20 v3=>App s 3 24 e2 [.int .i64 0,.int .i64 0,.int .i64 0] ⟨some n20,1,1⟩ v3 K:=by
 have i:s.len=l.length:=by have:=ho.1;rw[AS]at this;omega
 refine nw (cs:=v3 x) λv p e a=>?_;refine(ho.bP e).app (ys:=v3 x) (λb a=>hQ b O) rfl rfl ?_ (by simp[v3,dR]) ?_ ?_ ng λs' m _ g d _=>hK s' m ?_ ?_
 ·intro j u hu;rw[add_lit,zH,a.cell];exact hu
 ·simp only;have:(s.len+1)*24<=1001*24:=mb O O;omega
 ·simp only;omega
 ·exact(bL.to e).trans (g.sub λb a=>((ho.bP e).ji a).1)
 ·rw[Rt];exact d
theorem ς (w:Int)(hw1:2<=w)(hw2:w<=16){R:Sl->Int->Hp->Prop}(hR:∀s' σ',bL U σ'->iw σ' s' (se w)->R s' 0 σ'):X7.c w U R:=by
 refine X7.o ?_;unfold X7.v;refine bV.intro (fV O (cE (zL O) ?_));refine Us (a:=.s) (bb:=bO) (λ(all:Sl) (s:Int) u=>∃(n:Nat) (done:List T3),8<=s/\s<=768/\bL U u/\Go.Vc.Own (λb=>U.size<=b) u all 3 (lA done)/\done++mG n s w=mG 64 8 w/\512<=s+8*(n:Int)/\(∀x∈done,tP x)/\done.length+n=64) (λ_ s _=>1000-s.toNat) ⟨64,[],O,O,Ext.refl _ _,Own.nil _ _ _,rfl,O,by simp,by simp⟩ ?_;rintro(all:Sl) (s:Int) u ⟨n,done,hs1,hs2,eu,ho,hdone,hn,hok,hlen⟩;refine cQ (λX=>?_) λP=>?_
 ·obtain⟨n,rfl⟩:∃m,n=m+1:=⟨n-1,O⟩;refine ER s w O O hw1 hw2 λv2 e2=>?_;refine sZ (ho.bP e2) (λb E=>by have:=eu.1;have:=e2.1;omega) O (k9 s w) λall1 v4 e4 h4=>?_;have e04:bL U v4:=Ext.dS (eu.trans e2) e4 λb E=>.inr E;refine M9 s w O O hw1 λd1 d2=>ar O O ⟨⟨n,done++[k9 s w],O,O,e04,h4,?_,O,λx B=>?_,by simp;omega⟩,O⟩
  ·rw[←hdone,zr]
   congr 1
   conv=>rhs;rw[mG,zC X]
   rfl
  ·rcases zK.1 B with h1|h1
   ·exact hok x h1
   ·rw[zP]at h1;subst h1;exact DE s w O O
 ·have L:mG n s w=[]:=by
   cases n with
   | zero=>rfl
   | succ n=>rw[mG,zB P]
  rw[L,lC]at hdone;refine ER 512 w O O hw1 hw2 λv6 e6=>?_;refine sZ (ho.bP e6) (λb E=>by have:=eu.1;have:=e6.1;omega) O (k9 512 w) λe v8 e8 J=>?_;have e08:bL U v8:=Ext.dS (eu.trans e6) e8 λb E=>.inr E;rw[hdone]at J;have p:∀x∈allM w,tP x:=λx B=>by
   rcases zK.1 B with h1|h1
   ·rw[←hdone]at h1;exact hok x h1
   ·rw[zP]at h1;subst h1;exact DE 512 w O O
  have hml:(allM w).length<=65:=by unfold allM;rw[←hdone];simp;omega
  have J:Go.Vc.Own (λb=>U.size<=b) v8 e 3 (lA (allM w)):=J;generalize hall:allM w=l at J p hml;have hmk:se w=lW l l.length:=by unfold se;rw[hall]
  have hl2:e.len=l.length:=by have:=J.1;rw[AS]at this;omega
  refine Us (a:=.s) (bb:=bO) (λ(out:Sl) (z:Int) u=>∃i:Nat,z=(i:Int)/\i<=l.length/\bL v8 u/\Go.Vc.Own (λb=>v8.size<=b) u out 3 (lA (lW l i))/\(lW l i).length<=i) (λ_ z _=>l.length-z.toNat) ⟨0,rfl,O,Ext.refl _ _,Own.nil _ _ _,by simp[lW]⟩ ?_;rintro(out:Sl) (z:Int) u ⟨i,rfl,hi,eu8,hout,hol⟩;refine cQ (λX=>?_) λP=>?_
  ·have hi':i<l.length:=by omega
   have B:l[i]?=some l[i]:=cX hi';generalize l[i]=x at B;have D:=p x (zG B);have g:lW l (i+1)=lW l i++(if po l i then[x]else[]):=by
    unfold lW;rw[pZ,vI]
    congr 1
    by_cases hk:po l i=true
    ·simp[hk,B]
    ·simp[hk]
   have hA:∀m,bL u m->iw m e l:=λm d=>EO (J.bP (eu8.trans d));refine yF (λr u'=>bL u u'/\r=po l i) (λr u' ⟨j,Z⟩=>?_) λJ3 G=>?_
   ·have Q:=hout.bP j;cases hk:po l i with
    | true=>
     rw[hk]at Z g;refine cD Z (Ah (hA u' j) B ?_);refine sZ Q (λb E=>by have:=eu8.1;have:=j.1;omega) O x λout1 v12 e12 h12=>?_;refine cS (m:=i+1) O O ⟨⟨i+1,rfl,O,Ext.dS (eu8.trans j) e12 λb E=>.inr E,?_,?_⟩,O⟩
     ·rw[g];exact h12
     ·rw[g];simp;omega
    | false=>
     rw[hk]at Z g;refine cE Z (cS (m:=i+1) O O ⟨⟨i+1,rfl,O,eu8.trans j,?_,?_⟩,O⟩)
     ·rw[g];simpa using Q
     ·rw[g];simp;omega
   ·refine⟨λm=>bL u m,Ext.refl _ _,ar O O ?_⟩;refine cU (λH=>G _ _ ⟨Ext.refl _ _,?_⟩) λhnl=>?_
    ·have:i=l.length-1:=by simp only[zT]at H;omega
     unfold po;rw[this];simp
    ·have hi2:i+1<l.length:=by simp only[mB]at hnl;omega
     have Y:l[i+1]?=some l[i+1]:=cX hi2;generalize l[i+1]=y at Y;have C:=p y (zG Y);have W:po l i=(x.2.1 != y.2.1||mL x != mL y):=by
      unfold po;rw[B,Y];have:(i==l.length-1)=false:=by simp only[mB];omega
      rw[this];rfl
     have V:=λ(m:Hp) (d:bL u m)=>(hA m d).2 i x.1 x.2.1 x.2.2 B;have hcy:=λ(m:Hp) (d:bL u m)=>(hA m d).2 (i+1) y.1 y.2.1 y.2.2 Y;obtain⟨b,o,ha,_,_⟩:=V u (Ext.refl _ _);have rx:∀m,bL u m->cell m ⟨b,o+i*3,none⟩=some (.int .i64 x.1)/\cell m ⟨b,o+i*3+1,none⟩=some (.int .i64 x.2.1)/\cell m ⟨b,o+i*3+2,none⟩=some (.int .i64 x.2.2):=λm d=>by
      obtain⟨b',o',A,_,h⟩:=V m d;rw[ha]at A;cases A;exact h
     have ry:∀m,bL u m->cell m ⟨b,o+(i+1)*3,none⟩=some (.int .i64 y.1)/\cell m ⟨b,o+(i+1)*3+1,none⟩=some (.int .i64 y.2.1)/\cell m ⟨b,o+(i+1)*3+2,none⟩=some (.int .i64 y.2.2):=λm d=>by
      obtain⟨b',o',A,_,h⟩:=hcy m d;rw[ha]at A;cases A;exact h
     have M:∀{K:Addr->Prop},K ⟨b,o+i*3,none⟩->Ix e.a e.len (i:Int) 3 K:=λhK=>by
      rw[ha];exact ix O O (by rw[add_lit,dD];exact hK)
     have S:∀{K:Addr->Prop},K ⟨b,o+(i+1)*3,none⟩->Ix e.a e.len ((i+1:Nat):Int) 3 K:=λhK=>by
      rw[ha];exact ix O O (by rw[add_lit,dD];exact hK)
     refine M ⟨x.2.1,λm d=>by rw[add_lit];exact(rx m d).2.1,cS (m:=i+1) O O (S ⟨y.2.1,λm d=>by rw[add_lit];exact(ry m d).2.1,?_⟩)⟩;refine cU (λhp=>G _ _ ⟨Ext.refl _ _,by rw[W,hp];rfl⟩) λhp=>?_;refine M ⟨x.1,λm d=>by rw[add_lit];exact(rx m d).1,⟨x.2.1,λm d=>by rw[add_lit];exact(rx m d).2.1,⟨x.2.2,λm d=>by rw[add_lit];exact(rx m d).2.2,?_⟩⟩⟩;refine cS (m:=i+1) O O (S ⟨y.1,λm d=>by rw[add_lit];exact(ry m d).1,⟨y.2.1,λm d=>by rw[add_lit];exact(ry m d).2.1,⟨y.2.2,λm d=>by rw[add_lit];exact(ry m d).2.2,?_⟩⟩⟩);refine Ev x D.1 D.2.1 D.2.2.1 D.2.2.2 λv13 F=>⟨F,Ev y C.1 C.2.1 C.2.2.1 C.2.2.2 λv14 N=>⟨F.trans N,G _ _ ⟨F.trans N,by rw[W,hp];rfl⟩⟩⟩
  ·have hil:i=l.length:=by omega
   subst hil;refine hR out u (e08.trans eu8) ?_;rw[hmk];exact EO hout
theorem Fy:∀w:Nat,2<=w->w<=16->QK (se (w:Int))=true:=by
 have h:((List.range 17).all λw=>decide (w<2)||QK (se (w:Int)))=true:=by decide +kernel
 intro w h1 h2;have:=kf.1 h w (zh.2 O);simp only[nr,zU]at this;exact this.resolve_left O
end Go.Ar
namespace Go.Proofs
open Go.Shelf
def Tryz.eR:Go.Shelf.Ren:=⟨fun|6=>297|15=>160|14=>323|28=>224|29=>225|20=>344|21=>345|22=>346|23=>347|24=>348|25=>349|26=>350|27=>351|46=>357|47=>276|48=>277|49=>358|50=>359|57=>361|n=>n,fun|22=>141|24=>147|25=>369|3=>3|39=>230|0=>0|53=>311|55=>313|4=>4|46=>304|45=>303|50=>171|5=>5|9=>9|66=>353|70=>357|76=>383|77=>384|n=>n,fun|n=>n⟩
theorem Tryz.oD:Go.Proofs.SlLaysF0.n6 Tryz.prog Tryz.eR:={
 mixed:=by kernel_rfl
 f6:=⟨Tryz.f297.name,by decide,Tryz.func297.trans (congrArg some (by kernel_rfl))⟩
 f14:=⟨Tryz.f323.name,by decide,Tryz.func323.trans (congrArg some (by kernel_rfl))⟩
 f15:=Tryz.func160.trans (congrArg some (by kernel_rfl))
 f20:=⟨Tryz.f344.name,by decide,Tryz.func344.trans (congrArg some (by kernel_rfl))⟩
 f21:=⟨Tryz.f345.name,by decide,Tryz.func345.trans (congrArg some (by kernel_rfl))⟩
 f22:=⟨Tryz.f346.name,by decide,Tryz.func346.trans (congrArg some (by kernel_rfl))⟩
 f23:=⟨Tryz.f347.name,by decide,Tryz.func347.trans (congrArg some (by kernel_rfl))⟩
 f24:=⟨Tryz.f348.name,by decide,Tryz.func348.trans (congrArg some (by kernel_rfl))⟩
 f25:=⟨Tryz.f349.name,by decide,Tryz.func349.trans (congrArg some (by kernel_rfl))⟩
 f26:=⟨Tryz.f350.name,by decide,Tryz.func350.trans (congrArg some (by kernel_rfl))⟩
 f27:=⟨Tryz.f351.name,by decide,Tryz.func351.trans (congrArg some (by kernel_rfl))⟩
 f28:=Tryz.func224.trans (congrArg some (by kernel_rfl))
 f29:=Tryz.func225.trans (congrArg some (by kernel_rfl))
 f46:=⟨Tryz.f357.name,by decide,Tryz.func357.trans (congrArg some (by kernel_rfl))⟩
 f47:=Tryz.func276.trans (congrArg some (by kernel_rfl))
 f48:=Tryz.func277.trans (congrArg some (by kernel_rfl))
 f49:=⟨Tryz.f358.name,by decide,Tryz.func358.trans (congrArg some (by kernel_rfl))⟩
 f50:=⟨Tryz.f359.name,by decide,Tryz.func359.trans (congrArg some (by kernel_rfl))⟩
 f57:=⟨Tryz.f361.name,by decide,Tryz.func361.trans (congrArg some (by kernel_rfl))⟩
 t0:=Tryz.underlying0
 a0:=Tryz.isAgg0
 z0:=Tryz.sizeOf0
 v0:=Tryz.zeroValue0
 t3:=Tryz.underlying3
 a3:=Tryz.isAgg3
 z3:=Tryz.sizeOf3
 v3:=Tryz.zeroValue3
 t4:=Tryz.underlying4
 a4:=Tryz.isAgg4
 z4:=Tryz.sizeOf4
 v4:=Tryz.zeroValue4
 t5:=Tryz.underlying5
 a5:=Tryz.isAgg5
 z5:=Tryz.sizeOf5
 v5:=Tryz.zeroValue5
 t9:=Tryz.underlying9
 a9:=Tryz.isAgg9
 z9:=Tryz.sizeOf9
 v9:=Tryz.zeroValue9
 t22:=Tryz.underlying141
 a22:=Tryz.isAgg141
 z22:=Tryz.sizeOf141
 v22:=Tryz.zeroValue141
 t25:=Tryz.underlying369
 a25:=Tryz.isAgg369
 z25:=Tryz.sizeOf369
 v25:=Tryz.zeroValue369
 t39:=Tryz.underlying230
 a39:=Tryz.isAgg230
 z39:=Tryz.sizeOf230
 v39:=Tryz.zeroValue230
 t45:=Tryz.underlying303
 a45:=Tryz.isAgg303
 z45:=Tryz.sizeOf303
 v45:=Tryz.zeroValue303
 t46:=Tryz.underlying304
 a46:=Tryz.isAgg304
 z46:=Tryz.sizeOf304
 v46:=Tryz.zeroValue304
 t50:=Tryz.underlying171
 a50:=Tryz.isAgg171
 z50:=Tryz.sizeOf171
 v50:=Tryz.zeroValue171
 t53:=Tryz.underlying311
 a53:=Tryz.isAgg311
 z53:=Tryz.sizeOf311
 v53:=Tryz.zeroValue311
 t55:=Tryz.underlying313
 a55:=Tryz.isAgg313
 z55:=Tryz.sizeOf313
 v55:=Tryz.zeroValue313
 t66:=Tryz.underlying353
 a66:=Tryz.isAgg353
 z66:=Tryz.sizeOf353
 v66:=Tryz.zeroValue353
 t70:=Tryz.underlying357
 a70:=Tryz.isAgg357
 z70:=Tryz.sizeOf357
 v70:=Tryz.zeroValue357
 t76:=Tryz.underlying383
 a76:=Tryz.isAgg383
 z76:=Tryz.sizeOf383
 v76:=Tryz.zeroValue383
 t77:=Tryz.underlying384
 a77:=Tryz.isAgg384
 z77:=Tryz.sizeOf384
 v77:=Tryz.zeroValue384}
end Go.Proofs
namespace Go.Ar
open Go Go.Vc Go.Proofs Go.RowKit Go.Sort Go.Shelf Go.Lib
abbrev sL:=Fin 64×Sl
instance:Inhabited sL:=⟨(0,⟨none,0,0⟩)⟩
def kr (x:sL):List Value:=[.int .i64 (x.1.val:Int),.slice x.2.a x.2.len x.2.cap]
def pA (x y:sL):Int:=(x.1.val:Int)-(y.1.val:Int)
theorem Cr (x y:sL)(W:World):Calls Tryz.prog 298 #[.agg #[.int .i64 (x.1.val:Int),.slice x.2.a x.2.len x.2.cap],.agg #[.int .i64 (y.1.val:Int),.slice y.2.a y.2.len y.2.cap]] W λe w'=>e=.returned (.int .i64 (pA x y))/\∃q os',w'=grow (W.drewN q) os':=by
 have b:IntKind.i64.wrap ((x.1.val:Int)-(y.1.val:Int))=pA x y:=by
  have d:=x.1.isLt;have g:=y.1.isLt;unfold pA;exact Ub O O
 go_enter Tryz.func298,Tryz.ntmps298
 go_wp2
 go_ret
 exact⟨rfl,0,_,by rw[alloc_eq_grow,alloc_eq_grow,grow_grow];rfl⟩
theorem CT:SWO (ltOf pA) where
 irrefl x:=by simp[ltOf,pA]
 trans x y z a h2:=by
  have a:=uE a;have h2:=uE h2;unfold pA at a h2;exact zJ (by unfold pA;omega)
 ntrans x y z a h2:=by
  have a:=yv a;have h2:=yv h2;unfold pA at a h2;exact zL (by unfold pA;omega)
def uc (x:sL):Nat×Sl:=(x.1.val,x.2)
theorem Fs (l:List sL)(j:Nat)(hj:j<l.length*2):(fF (l.map uc))[j]?=some (flatK kr 2 l.toArray)[j]! := by
 rw[get_flatK _ _ _ _ (by simpa using hj)];have a:j/2<l.length:=by omega
 have e1:l.toArray[j/2]! = l[j/2]:=by rw[getElem!_pos _ _ (by simpa using a)];simp
 have b:(l.map uc)[j/2]?=some (uc l[j/2]):=by simp[a]
 have:=MO b (d:=j%2) O;rw[show 2*(j/2)+j%2=j by omega]at this;rw[this,e1];have hd:j%2=0\/j%2=1:=by omega
 rcases hd with h|h<;>rw[h]<;>rfl
theorem Iw:GM:=by
 intro U F s xs hrow hk hlen R hR;rintro w rfl;have hsl:s.len=xs.length:=by have:=hrow.1;rw[Vb]at this;omega
 rcases hrow.2 with⟨h0,hc0⟩|⟨b,cs,hF,ha,hb,hle,hcl,ht⟩
 ·have J:xs=[]:=List.length_eq_zero_iff.1 O;have:=AnyF.slices_SortFunc_none Tryz.oD s.a s.cap (.func (.func 298) #[] #[]) w;show Calls _ _ #[.slice s.a s.len s.cap,.func (.func 298) #[] #[]] w _;rw[h0];refine this.mono ?_;rintro e V ⟨rfl,rfl⟩;subst J;exact⟨.refl _,[],rfl,hR [] _ (.refl _) List.Pairwise.nil (Ext.refl _ _) hrow⟩
 ·have N:∀x∈xs,x.1<64:=hk
  let toK:Nat×Sl->sL:=λx=>(Fin.ofNat 64 x.1,x.2)
  have r:(xs.map toK).map uc=xs:=by
   rw[lB]
   conv=>rhs;rw[←uJ xs]
   apply ke;intro x hx;simp only[Function.comp,toK,uc,Fin.ofNat,id];rw[vv (N x hx)]
  have G:(xs.map toK).length=xs.length:=by simp
  generalize xs.map toK=l at r G;have C:=hb.lt;have hH:HoldsK kr 2 w b 0 l.toArray:=by
   intro j hj;simp only[size_flatK,Ai]at hj;have W:Vc.cell w.heap ⟨b,0+j,none⟩=some (flatK kr 2 l.toArray)[j]! := by
    rw[hb.cell,zH,←Fs l j hj,r];rw[←ht,zj,zC (by rw[Vb];omega)]
   exact⟨W,hb.od⟩
  have Y:∀args w,(callFunc 298 args).run Tryz.prog w=.ok (.enter 298 args) w:=enters_of Tryz.func298 (by kernel_rfl) rfl;have z:∀w,(isAgg (Tryz.eR.t 24)).run Tryz.prog w=.ok true w:=λw=>by
   have h:=Vh (P:=Tryz.prog) (t:=Tryz.eR.t 24) (d:=(Tryz.prog.underlying (Tryz.eR.t 24)).getD .bool) (by kernel_rfl) w
   rwa [show UK ((Tryz.prog.underlying (Tryz.eR.t 24)).getD .bool)=true by kernel_rfl]at h
  have K:∀w,(Go.sizeOf (Tryz.eR.t 24)).run Tryz.prog w=.ok 2 w:=λw=>by
   have h:=Q2 (P:=Tryz.prog) (t:=Tryz.eR.t 24) (by kernel_rfl) w
   rwa [show Tryz.prog.cellsOf (Tryz.eR.t 24)=2 by kernel_rfl]at h
  have A:=AnyQ.slices_SortFunc Tryz.oD 2 z K kr (λ_=>rfl) (λx v S=>by simp only[kr,zX,yk,or_false]at S;rcases S with rfl|rfl<;>rfl) pA CT 298 #[] b 0 s.cap l.toArray w Y (λ_ _ _ _ x y=>Cr x y _) hH C (by simp only[Ai];omega)
  show Calls _ _ #[.slice s.a s.len s.cap,.func (.func 298) #[] #[]] w _;rw[ha,show s.len=l.toArray.size by simp only[Ai];omega];refine A.mono ?_;rintro e V ⟨rfl,d',n,os,Q,L,rfl⟩;have g:d'.size=l.length:=by simpa using Q.1
  have u:d'.toList.Perm l:=by
   have M:=Q.2.2;rw[show l.toArray.size=d'.size by simp[g]]at M;have e1:(d'.extract 0 d'.size)=d':=by simp
   have e2:(l.toArray.extract 0 d'.size)=l.toArray:=by rw[g];simp
   rw[e1,e2]at M;simpa using M
  obtain⟨Z,E⟩:=hb;have m:(sortWorldK kr 2 w b 0 n d' os).heap=(w.heap.modify b (onCells (putCells id 0 (flatK kr 2 d'))))++os:=rfl;have p:(w.heap.modify b (onCells (putCells id 0 (flatK kr 2 d')))).size=w.heap.size:=by simp
  refine⟨⟨rfl,rfl,rfl,by rw[m,Array.size_append,p];omega⟩,[],rfl,?_⟩;rw[m];have B:Ext F w.heap ((w.heap.modify b (onCells (putCells id 0 (flatK kr 2 d'))))++os):=by
   refine⟨by rw[Array.size_append,p];omega,λq X hf=>?_⟩;rw[xg (by rw[p];exact X),xW,zB λ(e:b=q)=>hf (by rw[←e];exact hF)]
  refine hR (d'.toList.map uc) _ ?_ ?_ B ⟨?_,.inr ⟨b,(putCells id 0 (flatK kr 2 d') cs.toArray).toList,hF,ha,⟨Z,?_⟩,hle,?_,?_⟩⟩
  ·rw[←r];exact u.map _
  ·rw[sB];rw[mg];intro i j hi hj hij;have D:=L i j O hij (by simp only[wa]at hj;simp only[Ai];omega);rw[getElem!_pos d' i (by simpa using hi),getElem!_pos d' j (by simpa using hj)]at D;have D:=yv D;unfold pA at D;simp only[uc,Array.getElem_toList];omega
  ·rw[Vb,zk,wa,g];omega
  ·rw[xg (by rw[p];exact C),xW,zC rfl,E];simp[onCells]
  ·simp[putCells,hcl]
  ·rw[Vb,zk,wa,g];apply zo;intro j;rw[zj];by_cases hj:j<l.length*2
   ·rw[zC hj,Fs d'.toList j (by simpa[g]using hj)];have H:j<cs.length:=by
     have:l.length*2<=s.cap*2:=ma _ O;omega
    simp only[putCells,yJ,Array.getElem?_mapIdx,List.getElem?_toArray,cX H,ze];rw[zC ⟨O,by rw[size_flatK,g];omega⟩];simp
   ·rw[zB hj,zW (by rw[Vb,zk,wa,g];omega)]
end Go.Ar
namespace Go.Proofs
open Go.Vc
set_option maxRecDepth 100000
def Xw.h:Hn:=.q .o1 (.q .o4 .l)
def Xw.v (a:Hp)(b:Option Addr->Hp->Prop):Prop:=Xn.c 8 64 1 1 1024 2 a λc d=>b c d
theorem Xw.o {a b}(c:Xw.v a b):Xw.c a b:=Wa Tryz.func39 (x:=Xw.h) (R0 c)
def Xn.h:Hn:=.q .o2 (.q .o8 (.q .o9 (.q (.q .o2 .aK) .aL)))
def Xn.v (a b c d e f:Int)(g:Hp)(h:Option Addr->Hp->Prop):Prop:=aV #[.I a,.I b,.I c,.I d,.I e,.I f] 25 g λi j=>aQ i 0 j λk=>X7.c k j λl m n=>bN ((i.add 1).add 0) n λo=>bN ((i.add 1).add 1) n λp=>bN ((i.add 1).add 2) n λq=>bN ((i.add 1).add 3) n λr=>bN ((i.add 1).add 4) n λs=>KY.c l o p q r s n λt u v=>If (u != 0) (h none v) (h t v)
theorem Xn.o {a b c d e f g h}(i:Xn.v a b c d e f g h):Xn.c a b c d e f g h:=Wa Tryz.func53 (x:=Xn.h) (R0 i)
end Go.Proofs
namespace Go.Ar
open Go Go.Vc Go.Proofs
variable {U w w':Hp}{F P Q:Rg}{L:dH}{H H':Hw}{held:List Pc}{s0:Sp}{t n:Nat}{g:Th}
structure gQ where
 kd:Int
 th:Int
 a:Int
 b:Int
 of:Int
 pl:Int
 va:Int
 s:ByteArray
def DI (d:gQ):List Value:=[.int .i64 d.kd,.int .i64 d.th,.int .i64 d.a,.int .i64 d.b,.int .i64 d.of,.int .i64 d.pl,.int .i64 d.va,.string d.s]
def ku (x:Int):Prop:=-9223372036854775808<=x/\x<=9223372036854775807
structure wH (d:gQ):Prop where
 a:ku d.a
 b:ku d.b
 pl:ku d.pl
 va:ku d.va
structure lZ (U:Hp) (sl:Sl) (ds:List gQ):Prop where
 len:sl.len=ds.length
 at_:∀(i:Nat) (d:gQ),ds[i]?=some d->∃b o,sl.a=some ⟨b,o,none⟩/\b<U.size/\∀(j:Nat) v,(DI d)[j]?=some v->cell U ⟨b,o+i*8+j,none⟩=some v
 i:∀d∈ds,wH d
 BQ:ds.length<=9223372036854775807
theorem lZ.bP {sl:Sl}{ds:List gQ}(h:lZ U sl ds)(e:bL U w):lZ w sl ds:=⟨h.len,λi d m=>by
 obtain⟨b,o,r,p,a⟩:=h.at_ i d m;exact⟨b,o,r,by have:=e.1;omega,λj v g=>by rw[KF e p id];exact a j v g⟩,h.i,h.BQ⟩
theorem lZ.rd {sl:Sl}{ds:List gQ}(h:lZ U sl ds)(e:bL U w){i:Nat}{d:gQ}(hx:ds[i]?=some d){K:Addr->Prop}(hK:∀b o,(∀w',bL U w'->∀(j:Nat) v,(DI d)[j]?=some v->cell w' ⟨b,o+j,none⟩=some v)->K ⟨b,o,none⟩):Ix sl.a sl.len (i:Int) 8 K:=by
 obtain⟨b,o,u,s,m⟩:=h.at_ i d hx;have x:=(cZ.1 hx).1;have g:=h.len;rw[u];refine ix O O ?_;rw[add_lit,dD];exact hK b _ λw' r j v p=>by rw[KF r s id];exact m j v p
theorem L7 {xs:List (Int×Int×Int)}(h:QK xs=true):(xs.map Qo).map mo=xs:=by
 rw[lB]
 conv=>rhs;rw[←uJ xs]
 apply ke;intro t ht;obtain⟨i,d⟩:=zO ht;have:=((QB xs).1 h).2.2.1 i t d;obtain⟨c,_,g,e,b,a⟩:=G4 this;simp only[Function.comp,id];rw[show Qo t=c from g];unfold mo;rw[←e,←b,←a]
theorem LJ {xs:List (Int×Int×Int)}(h:QK xs=true):(xs.map Qo).length<=40/\∀c∈xs.map Qo,c.ok:=by
 refine⟨by have:=((QB xs).1 h).2.1;simpa using this,λc b=>?_⟩;obtain⟨t,e,rfl⟩:=zF.1 b;obtain⟨i,d⟩:=zO e;have:=((QB xs).1 h).2.2.1 i t d;obtain⟨c,a,g,_⟩:=G4 this;rw[show Qo t=c from g];exact a
structure xo (H:Hw) (aF:Int):Prop where
 hi:HI H [] (VT H.cf.aF)
 cf:lO H
 pg:(H.cf.aF:Int)=aF
 live:H.live=[]
 ph:∀g∈H.bR,g.ph=none
 th:1<=H.cf.threads
theorem ML {xs:List (Int×Int×Int)}{p a t b r:Int}(h:QK xs=true)(hc:sA p a t b r=true):xo (Un (xs.map Qo) ⟨p.toNat,a.toNat,t.toNat,b.toNat,r.toNat⟩) p:=by
 obtain⟨⟨q1,q2,q3⟩,⟨q4,s⟩,⟨j,m⟩,_⟩:=(DC p a t b r).1 hc;obtain⟨e,d⟩:=LJ h;refine⟨Lh (cf:=⟨p.toNat,a.toNat,t.toNat,b.toNat,r.toNat⟩) aC aC aC aC e d,⟨by simp only[Un];omega,by simp[Un],?_⟩,by simp only[Un];omega,rfl,λg i=>by rw[A4 i],by simp only[Un];omega⟩;show QK ((xs.map Qo).map mo)=true;rw[L7 h];exact h
def Safe (H:Hw)(d:gQ)(x:Int)(e:Int×Bk):Prop:=(∀j,fP H j≠some (.find e.1))/\¬((d.kd=3\/d.kd=1\/d.kd=6)/\e.1<=x/\x<e.1+e.2.2.1)
structure nu (H:Hw) (d:gQ) (x:Int) (H':Hw):Prop where
 hi:∃held s0,HI H' held s0
 kp:QQ H' H
 fx:∀e∈H.live,Safe H d x e->e∈H'.live/\(∀w:Nat,e.1<=((8*w:Nat):Int)->((8*w:Nat):Int)<e.1+e.2.2.1->H'.sp.wd w=H.sp.wd w)/\∀j,fP H' j≠some (.find e.1)
theorem nu.same (h:HI H held s0)(d:gQ)(x:Int):nu H d x H:=⟨⟨_,_,h⟩,QQ.refl _,λe b a=>⟨b,λ_ _ _=>rfl,a.1⟩⟩
theorem nu.op (h:HI H held s0){d:gQ}{x:Int}(o:fY H H')(hl:∀e∈H.live,Safe H d x e->e∈H'.live):nu H d x H':=
 ⟨o.hi,o.kp,λe b a=>⟨hl e b a,h.kl o.ks e b,λj=>by rw[o.ph];exact a.1 j⟩⟩
theorem nu.ar {d:gQ}{x:Int}(o:mP H H'):nu H d x H':=
 ⟨o.hi,o.kp,λe a b=>⟨by rw[o.live];exact a,o.kl e a,λj=>by unfold fP;rw[o.bR];exact b.1 j⟩⟩
theorem HI.oy (h:HI H held s0){e:Int×Bk}(he:e∈H.live):8<=e.2.2.1/\0<=e.1/\e.1%8=0/\e.2.2.1%8=0/\e.1+e.2.2.1<=270000:=by
 obtain⟨_,p,d,E,J,C,F,_⟩:=h.lv e he;have G:=h.yq.size_pos d;have z:=h.yq.jL d;obtain⟨A,w,hd⟩:=h.yq.hf p d;have K:p.addr%8=0:=by
  rcases hd with⟨_,_,r,hr,c2,c3⟩|⟨j,c,c1,c2,c3,c4,_⟩
  ·omega
  ·obtain⟨a,u,b,y⟩:=c4;have:a=c:=Option.some.inj (b.1.symm.trans c2);subst this;have m:=(h.yq.ga _ A w).cG j a u b;obtain⟨l,s,i,B,D,e,_⟩:=(V3 m).1 y;have g:=m.ok;unfold cA.ok at g;unfold at_ at e;have x:a.size=8*(a.size/8):=by omega
   have:i*a.size=8*(i*(a.size/8)):=by rw[Nat.mul_left_comm,←x]
   omega
 omega
theorem nu.write (h:HI H held s0){d:gQ}{x:Int}(hd:d.kd=3)(v:Int):nu H d x {H with sp:=ZM H.sp x v}:=by
 refine⟨⟨_,_,h.write x v⟩,⟨rfl,rfl,rfl,rfl⟩,λe a b=>⟨a,λw j m=>?_,b.1⟩⟩;have i:=h.oy a;rw[(C7 H.sp x v).2.2,zB];rintro⟨h0,hw⟩;have g:=Eu h0;exact b.2 ⟨.inl hd,O,O⟩
theorem nu.free (h:HI H held s0){d:gQ}{x thread e:Int}(hd:d.kd=1)(o:fY H H')(hf:nD H thread x H' e):nu H d x H':=by
 refine nu.op h o λi a g=>?_;have m:=h.oy a;rcases hf with⟨_,h2,_⟩|⟨_,_,_,h4⟩|⟨_,b,_,_,h4⟩
 ·rw[h2];exact a
 ·rw[h4];exact a
 ·rw[h4];refine GX.2 ⟨a,λj=>g.2 ⟨.inr (.inl hd),O,O⟩⟩
theorem nu.step (h:HI H held s0){d:gQ}{x:Int}(hg:H.bR[t]?=some g){p:Ph}(hp:g.ph=some p):nu H d x (QW H t p):=by
 have J:=(cZ.1 hg).1;have s:=h.ω hg hp;have B:fP H t=some p:=by unfold fP;rw[hg];exact hp
 have live:∀e∈H.live,p≠.find e.1->e∈(QW H t p).live:=λe i C=>by
  by_cases hf:lj p
  ·obtain⟨_,_,_,K,m⟩:=rj h hg hp hf;by_cases u:∃y,p=.find y
   ·obtain⟨y,rfl⟩:=u;cases hm:bU H.live y with
    | none=>rw[((m y rfl).1 hm).2.2];exact i
    | some b=>
     rw[((m y rfl).2 b hm).2];exact GX.2 ⟨i,λa=>C (by rw[a])⟩
   ·rw[(K λy a=>u ⟨y,a⟩).2];exact i
  ·obtain⟨cl,G,A⟩:=Aw h hg hp hf;obtain⟨_,r⟩:=qX h hg hp A;rcases r with⟨_,_,_,e2,_⟩|⟨_,_,_,e4⟩|⟨_,_,e3,e4⟩
   ·rw[e2];exact i
   ·rw[e4];exact i
   ·rw[e4];exact(G8 e3).2 (.inl i)
 have z:∀y,(WJ H t p).2.1≠some (.find y):=λy a=>by
  by_cases hf:lj p
  ·obtain⟨_,_,r,_⟩:=rj h hg hp hf;rcases r with⟨p',w,e1,_,e3,_⟩|e1
   ·rw[e1]at a;exact e3 y (Option.some.inj a)
   ·rw[e1]at a;cases a
  ·obtain⟨cl,G,A⟩:=Aw h hg hp hf;obtain⟨_,r⟩:=qX h hg hp A;rcases r with⟨p',w,e1,_,_,e4,_⟩|⟨e1,_⟩|⟨e1,_⟩
   ·rw[e1]at a;cases a;exact e4.elim
   ·rw[e1]at a;cases a
   ·rw[e1]at a;cases a
 refine⟨s.hi,UR H t p,λe i F=>⟨live e i λu=>F.1 t (by rw[B,u]),h.kl s.ks e i,λj=>?_⟩⟩;by_cases hj:j=t
 ·subst hj;obtain⟨w,E,D⟩:=HE (p:=p) J;unfold fP;rw[E];show w.ph≠_;rw[D];exact z _
 ·unfold fP;rw[UE p hj];exact F.1 j
end Go.Ar
namespace Go.Ar
open Go Go.Vc Go.Proofs
variable {U w w':Hp}{F P Q X:Rg}{L:dH}{H H':Hw}{held:List Pc}{s0:Sp}{t n:Nat}{g:Th}
structure fU (σ0 U:Hp) (L:dH) (H:Hw) (held:List Pc) (s0:Sp) (P Q:Rg) (addrs:Sl) (ad:List Int):Prop where
 e:bL σ0 U
 h:HH U P L H
 hi:HI H held s0
 cf:lO H
 pg:H.cf.aF<=128
 pP:∀b,P b->σ0.size<=b/\b<U.size
 pQ:∀b,Q b->σ0.size<=b/\b<U.size/\¬P b
 row:bS addrs 1 (WD ad) U Q
 al:ad.length<=60
 g0:iW (λb=>σ0.size<=b)/\¬σ0.size<=1
variable {σ0:Hp}{addrs:Sl}{ad:List Int}
theorem fU.step (p:fU σ0 U L H held s0 P Q addrs ad){ts':List eJ}(e:Ext P U w)(h':HH w (Grow P U) {L with ts:=ts'} H'){held':List Pc}{s0':Sp}(hi':HI H' held' s0')(k:QQ H' H) :
 fU σ0 w {L with ts:=ts'} H' held' s0' (Cut (Grow P U) w) Q addrs ad:=by
 have j:=e.1;refine⟨Ext.dS p.e e λb a=>.inr (p.pP b a).1,h'.cut,hi',p.cf.bT k,by rw[k.2.1];exact p.pg,λb a=>⟨?_,a.2⟩,λb a=>?_,aI.bT p.row e λb _ i d=>(p.pQ b i).2.2 d,p.al,p.g0⟩
 ·have:=p.e.1;rcases a.1 with h1|h1
  ·exact(p.pP b h1).1
  ·omega
 ·obtain⟨q1,q2,q3⟩:=p.pQ b a;exact⟨q1,O,λg=>by
   rcases g.1 with h1|h1
   ·exact q3 h1
   ·omega⟩
theorem fU.fr (p:fU σ0 U L H held s0 P Q addrs ad)(e:bL U w):fU σ0 w L H held s0 P Q addrs ad:=
 ⟨p.e.trans e,p.h.bP e,p.hi,p.cf,p.pg,λb a=>⟨(p.pP b a).1,by have:=(p.pP b a).2;have:=e.1;omega⟩,λb a=>⟨(p.pQ b a).1,by have:=(p.pQ b a).2.1;have:=e.1;omega,(p.pQ b a).2.2⟩,aI.bP p.row e,p.al,p.g0⟩
theorem fU.out (p:fU σ0 U L H held s0 P Q addrs ad){T:Rg}(e:Ext T U w)(hT:∀b,b<U.size->T b->¬P b/\¬Q b/\σ0.size<=b):fU σ0 w L H held s0 P Q addrs ad:=by
 have r:=e.1;have g:Ext (λb=>T b/\b<U.size) U w:=⟨e.1,λb a i=>e.2 b a λd=>i ⟨d,a⟩⟩;refine⟨Ext.dS p.e g λb a=>.inr (hT b a.2 a.1).2.2,p.h.bT g (λb a j d=>(hT b a d.1).1 j) (λb a=>?_) (λa=>?_),p.hi,p.cf,p.pg,λb a=>⟨(p.pP b a).1,by have:=(p.pP b a).2;omega⟩,λb a=>⟨(p.pQ b a).1,by have:=(p.pQ b a).2.1;omega,(p.pQ b a).2.2⟩,aI.bT p.row g λb a m d=>(hT b a d.1).2.1 m,p.al,p.g0⟩
 ·exact p.g0.1 b (hT b a.2 a.1).2.2
 ·exact p.g0.2 (hT _ a.2 a.1).2.2
theorem BN (hr:bS addrs 1 (WD ad) U Q)(hl:ad.length<=1000000)(x:Int){e t:Nat}{K:Sl->Hp->Prop}(hK:∀s' w,Ext Q U w->bS s' 1 (WD (ad++[x])) w (λb=>Q b\/U.size<=b/\b<w.size)->K s' w) :
 Nw (.cells #[.int .i64 x] t (0,0)) U λn v=>App addrs 1 8 e [.int .i64 0] ⟨some n,1,1⟩ v K:=by
 have m:addrs.len=ad.length:=by have:=hr.1;simp[WD]at this;omega
 refine bS.push (F:=λb=>Q b\/U.size<=b) (vs:=[.int .i64 x]) (aI.mono hr λb _ a=>.inl a) (λb a=>.inr a) rfl rfl (by simp[dR]) O O λs' w j g i=>hK s' w ⟨g.1,λb a p=>g.2 b a λd=>d.elim p λd=>O⟩ ?_;have:WD (ad++[x])=WD ad++[.int .i64 x]:=by simp[WD]
 rw[this];refine aI.mono (aI.cut i) λb a d=>?_;rcases d.1 with h1|h1
 ·exact .inl h1
 ·exact .inr ⟨h1,a⟩
end Go.Ar
namespace Go.Ar
open Go.Vc (bU dB cT)
def i63 (x:Int):Bool:=decide (x<=9223372036854775807)
def pM (H:Hw)(t:Nat):Ph->Bool
 | .take k=>decide (k<H.tb.length)&&(match Ky (H.cls k) ((H.jY t).li k)with
  | (some y,_)=>i63 y
  | (none,_)=>true)
 | .cJ k _=>decide (k<H.tb.length)&&(Qi (H.eC t) (k:Int) != 0 || !(YI (H.eC t) (k:Int)).isEmpty)
 | .cL _ _=>true
 | .grow _ _=>true
 | .fill=>match (H.jY t).bQ with
  | (k,x::xs)::_=>decide (k<H.tb.length)&&(i63 x&&decide (((H.jY t).li k).os.length+xs.length<=256))
  | _=>false
 | .eI m=>decide (Qh (H.eC t) H.sp (m:Int) 1<=1000000)
 | .find x=>i63 x&&((bU H.live x).isSome&&decide (0<=x))
 | .put k _=>decide (k<H.tb.length) && !(H.jY t).bQ.isEmpty
 | .back=>match (H.jY t).bQ with
  | (_,xs)::_=>(xs.all λx=>i63 x&&decide (0<=X9 H.bY x))&&decide (xs.length<=1000000)
  | _=>false
 | .dE _ a=>decide (0<=a)&&(decide (a.toNat<H.bY.length)&&H.bY.all λA=>A.runs.all λr=>decide (r.1<=1000000))
 | .drain=>true
theorem xR {x:Int}(h:i63 x=true):iH x:=by
 unfold i63 at h;unfold iH;exact uE h
theorem LN {H:Hw}{t:Nat}{p:Ph}(h:pM H t p=true):vo H t p:=by
 cases p with
 | take k=>
  simp only[pM,zE,zU]at h;refine⟨h.1,λy l i=>?_⟩;have e:=h.2;rw[i]at e;exact xR e
 | cJ k w=>
  simp only[pM,zE,zU,nr]at h;refine⟨h.1,λu d=>?_⟩;rw[u,d]at h;simp at h
 | cL k w=>trivial
 | grow k w=>trivial
 | fill=>
  simp only[pM]at h;split at h
  ·rename_i k x xs r hh;simp only[zE,zU]at h;exact⟨k,x,xs,r,hh,h.1,xR h.2.1,h.2.2⟩
  ·cases h
 | eI m=>
  simp only[pM,zU]at h;exact h
 | find x=>
  simp only[pM,zE,zU]at h;exact⟨xR h.1,λj=>by rw[j]at h;simp at h,λb _=>h.2.2⟩
 | put k x=>
  simp only[pM,zE,zU]at h;exact⟨h.1,λd=>by rw[d]at h;simp at h⟩
 | back=>
  simp only[pM]at h;split at h
  ·rename_i k xs r hh;simp only[zE,zU,kf]at h;exact⟨k,xs,r,hh,λx g=>⟨xR (h.1 x g).1,(h.1 x g).2⟩,h.2⟩
  ·cases h
 | dE s a=>
  simp only[pM,zE,zU,kf]at h;exact⟨h.1,h.2.1,h.2.2⟩
 | drain=>trivial
def oE:Nat->Hw->Nat->Ph->Option (Hw×Int×Int)
 | 0,_,_,_=>none
 | n+1,H,t,p=>if pM H t p&&decide ((H.jY t).bQ.length<=900)then(match (WJ H t p).2.1 with
  | none=>some (QW H t p,(WJ H t p).2.2.1,(WJ H t p).2.2.2)
  | some p'=>oE n (QW H t p) t p')else none
theorem DJ:∀{n:Nat} {H:Hw} {t:Nat} {p:Ph} {r:Hw×Int×Int},oE n H t p=some r->∃m,iG m H t p r.1 r.2.1 r.2.2
 | 0,_,_,_,_,h=>by simp[oE]at h
 | n+1,H,t,p,r,h=>by
  rw[oE]at h;split at h
  ·rename_i hc;simp only[zE,zU]at hc;have hok:uG H t p:=⟨LN hc.1,λg b=>by rw[←GE b];exact hc.2⟩;split at h
   ·rename_i hn;cases h;exact⟨1,.done hok hn⟩
   ·rename_i p' hs;obtain⟨m,a⟩:=DJ h;exact⟨m+1,.next hok hs a⟩
  ·cases h
def Uw (H:Hw)(thread kind size align addr:Int):Option (Hw×Int×Int):=match KP H thread kind size align addr with
 | .inl e=>if e=0 then none else some (H,0,e)
 | .inr (t,p)=>oE 40 (eP H t (some p)) t p
theorem FO {H:Hw}{thread kind size align addr:Int}{r:Hw×Int×Int}(h:Uw H thread kind size align addr=some r):KN H thread kind size align addr r.1 r.2.1 r.2.2:=by
 unfold Uw at h;split at h
 ·rename_i e he;split at h
  ·cases h
  ·rename_i hne;cases h;exact .inl ⟨he,hne,rfl,rfl⟩
 ·rename_i t p he;obtain⟨m,a⟩:=DJ h;exact .inr ⟨t,p,m,he,a⟩
def IW:List cA:=(se 8).map Qo
def w0:Hw:=Un IW ⟨64,1,1,1024,2⟩
theorem wc:Un ((se 8).map Qo) ⟨(64:Int).toNat,(1:Int).toNat,(1:Int).toNat,(1024:Int).toNat,(2:Int).toNat⟩=w0:=rfl
end Go.Ar
namespace Go.Ar
open Go Go.Vc Go.Proofs
variable {U u u':Hp}{F:Rg}{L:dH}{H H':Hw}{N:Nat}
attribute [local irreducible] w0 IW
theorem FH (g:Gl U)(gd:Gd U){R:Option Addr->Hp->Prop}(hR:∀σ' L N,bL U σ'->U.size<=N->N<=σ'.size->HH σ' (λb=>N<=b) L w0->R (some ⟨L.p,0,none⟩) σ'):Xw.c U R:=by
 refine Xw.o ?_;unfold Xw.v;refine Xn.o ?_;unfold Xn.v;refine nw (cs:=[.int .i64 8,.int .i64 64,.int .i64 1,.int .i64 1,.int .i64 1024,.int .i64 2]) λv y e m=>m.rI rfl ?_;refine ς 8 aB aB λs w e1 x=>?_;have a:=e1.bW m id;have d:=e.trans e1;refine a.gC rfl (a.gC rfl (a.gC rfl (a.gC rfl (a.gC rfl ?_))));refine N9 x (g.bP d) (gd.bP d) 64 1 1 1024 2 (λi=>?_) (λ_ r=>?_) λ_ _ u L e2 j=>?_
 ·have:=Fy 8 aB aB;rw[show((8:Nat):Int)=8 from rfl]at this;rw[this]at i;cases i
 ·exact absurd r aB
 ·rw[wc]at j;exact cE rfl (hR u L w.size (d.trans e2) d.1 e2.1 j)
end Go.Ar
namespace Go.Proofs
open Go.Vc
set_option maxRecDepth 100000
def Y3.h:Hn:=.q .o1 (.q (.q .o3 .aK) (.q .o1 (.q (.q .o8 (.k (.loop [(3,.one .s),(16,.I)] (.q .o1 (.q (.c .l .l) (.q (.k (.q .o3 (.o 11))) .o2)))))) .aL)))
def Y3.v (a:R2)(b:Hp)(c:Sl->Hp->Prop):Prop:=WT.c a b λd e=>If (!d) (c ⟨none,0,0⟩ e) (bJ a 1 e λg=>Zu.c g e λh i=>VY.c h i λj k=>Ya [.s,bO] (λl=>l ⟨none,0,0⟩ 0 k) λm (n:Sl) (o:Int) p=>If (o<((j.len:Nat):Int)) (Ix j.a j.len o 1 λq=>bN q p λr=>bX a λs=>bC s 1 p λt=>Lk .i64 (.ag 5) t r p λu=>aV #[.I ((u.getD (0,0,0,0,0)).1),.I ((u.getD (0,0,0,0,0)).2.1),.I ((u.getD (0,0,0,0,0)).2.2.1),.I ((u.getD (0,0,0,0,0)).2.2.2.1)] 48 p λv w=>App n 4 32 48 [.I 0,.I 0,.I 0,.I 0] ⟨some v,1,1⟩ w λx y=>bM (o+1) λz=>m x z y) (c n p))
theorem Y3.o {a b c}(d:Y3.v a b c):Y3.c a b c:=Wa Tryz.func33 (x:=Y3.h) (R0 d)
def QY.h:Hn:=.q .o2 (.q (.q .o3 .aJ) (.q .o7 .l))
def QY.v (a:R2)(b:Hp)(c:Option Addr->Int->Hp->Prop):Prop:=QM.c a b λd e=>If (!d) (c none 1 e) (Nw (.map #[] 0) e λf g=>Nw (.map #[] 0) g λh i=>aV #[.pointer a,.map (some f.block),.map (some h.block),.I 0] 75 i λj k=>c (some j) 0 k)
theorem QY.o {a b c}(d:QY.v a b c):QY.c a b c:=Wa Tryz.func38 (x:=QY.h) (R0 d)
def W4.h:Hn:=.q .o1 (.q (.q .o3 .aK) (.q .o5 .l))
def W4.v (a:R2)(b:Hp)(c:Option Addr->Hp->Prop):Prop:=WT.c a b λd e=>If (!d) (c none e) (bG a 0 e λg=>c g e)
theorem W4.o {a b c}(d:W4.v a b c):W4.c a b c:=Wa Tryz.func43 (x:=W4.h) (R0 d)
def X2.h:TX:=.nx (.o 3) (.nx (.seq (.o 3) (.cond (.seq (.o 2) (.leaf)) (.leaf))) (.nx (.seq (.cW (.seq [.op,.op,.op,.cR false 2 [.op,.op],.op,.cR false 2 [.op,.op],.op,.cR false 2 [.op,.op],.op,.cR false 5 [.op,.op,.op,.op,.op]])) (.cond (.seq (.o 2) (.leaf)) (.leaf))) (.nx (.o 3) (.nx (.o 5) (.nx (.cW (.held true [] (.take 0 (.take 1 (.take 2 (.take 3 (.take 4 (.take 5 (.take 6 (.take 10 (.all [(7,.take 8 (.take 9 (.all [(11,.take 12 (.take 13 (.take 14 (.take 15 (.take 16 (.done))))))])))]))))))))))) (.nx (.seq (.o 2) (.cond (.seq (.o 3) (.leaf)) (.leaf))) (.nx (.o 8) (.nx (.o 16) (.nx (.o 12) (.r1 (.o 2) bO (.block (.cW (.held true [] (.take 0 (.take 1 (.take 2 (.take 3 (.take 4 (.take 5 (.all [(6,.all [(7,.done)])])))))))))) (.seq (.o 3) (.seq (.cW (.held true [8] (.take 0 (.take 1 (.take 2 (.take 3 (.take 4 (.take 5 (.take 6 (.take 7 (.all [(8,.done)]))))))))))) (.seq (.o 5) (.leaf))))))))))))))
def X2.v (a:R2)(b c d:Int)(e:Hp)(f:Int->Int->Hp->Prop):Prop:=aV #[.pointer a] 50 e λg h=>fS g h λi=>WT.c i h λj k=>If (!j) (f 0 5 k) (bV (λl m=>bV (λn o=>bV (λp q=>bV (λr s=>If r (f 0 1 s) (aV #[.I 0,.I 0,.I 0,.I 0,.I 0] 106 s λt u=>aR t 0 (.I 0) u λv=>aR t 1 (.I c) v λw=>aR t 2 (.I 0) w λx=>aR t 3 (.I 0) x λy=>aR t 4 (.I 0) y λz=>dZ z λaa=>gE aa .p g λ(ab:R2)=>bX ab λac=>aU aa ac 0 λad=>aS aa t 0 λae=>aS aa t 1 λaf=>aS aa t 2 λag=>aS aa t 3 λah=>aS aa t 4 λai=>XB.c ae af ag ah ai z λaj ak=>And (aa ak) <| bM ((if 16>d then 16 else d)+aj) λal=>bM (al+16) λam=>YX.c ad b am (if 16>d then 16 else d) ak λan ao ap=>And (aa ap) <| If (ao != 0) (f 0 ao ap) (fS g ap λaq=>bE aq 3 ap λau=>bM (au+1) λav=>bX aq λaw=>aR aw 3 (.I av) ap λax=>fS g ax λay=>bE ay 3 ax λa0=>bM (an+(if 16>d then 16 else d)) λa1=>aR t 4 (.I a0) ax λa2=>dU ((t.add 0).add 2) (.I an) a2 λa3=>dU ((t.add 0).add 0) (.I a1) a3 λa4=>fS g a4 λa5=>bG a5 0 a4 λa7=>XS.c a7 an a4 λa8 a9 ba=>dU ((t.add 0).add 3) (.I a8) ba λbb=>aQ t 0 bb λbc=>aQ t 1 bb λbd=>aQ t 2 bb λbe=>aQ t 3 bb λbf=>aQ t 4 bb λbg=>
 XX.c bc bd be bf bg bb λbh bi=>AP Tryz.prog (e1 bO) bh bi (λ(bj:Int) bk bl=>dZ bl λbm=>gE bm .p g λ(bn:Option Addr)=>bX bn λbo=>aU bm bo 0 λbp=>ZU.c bj bl λbq br=>And (bm br) <| XH.c bp bj bq br λbs bt=>And (bm bt) <| bk bt) λbu=>fS g bu λbv=>aQ t 0 bu λbw=>aQ t 1 bu λbx=>aQ t 2 bu λbz=>aQ t 3 bu λb0=>aQ t 4 bu λb1=>Ys.c bv bw bx bz b0 b1 0 bu λb2=>dZ b2 λb3=>gE b3 .p g λ(b4:Option Addr)=>bX b4 λb5=>gE b3 .m (b5.add 1) λ(b6:Option Nat)=>gE b3 bO ((t.add 0).add 0) λ(b7:Int)=>aS b3 t 0 λb8=>aS b3 t 1 λb9=>aS b3 t 2 λca=>aS b3 t 3 λcb=>aS b3 t 4 λcc=>kH .i64 (.ag 5) b6 b7 (b8,b9,ca,cb,cc) b2 λcd=>bN ((t.add 0).add 0) cd λce=>uH bi.size cd λcf=>f ce 0 cf))) λcg=>If p (cg true q) (bM (d-1) λch=>cg ((bits .and .i64 d ch) != 0) q)) λci=>If n (ci true o) (ci (decide (d>256)) o)) λcj=>If l (cj true m) (cj (decide (d<1)) m)) λck=>If (c<1) (ck true k) (ck (decide (c>1024)) k))
theorem X2.o {a b c d e f}(g:X2.v a b c d e f):X2.c a b c d e f:=DB Tryz.func56 (x:=X2.h) (R0 g)
def WT.h:Hn:=.q .o1 (.q (.cW (.seq [.op,.op,.op,.cR true 5 (RI.ops 5),.op])) .l)
def WT.v (a:R2)(b:Hp)(c:aO):Prop:=bV (λd e=>c d e) λf=>If (!a.isNone) (bG a 0 b λh=>f (!h.isNone) b) (f false b)
theorem WT.o {a b c}(d:WT.v a b c):WT.c a b c:=Wa Tryz.func58 (x:=WT.h) (R0 d)
def ZC.h:Hn:=.q .o2 (.q .o1 (.q .o2 (.q (.q .o5 (.k (.loop [(9,.one .b),(10,.one .b)] (.q (.cW (.seq [.it .i64 (.ag 5),.op])) (.q (.c .l .l) (.k (.q (.cW (.seq [.it .i64 (.ag 5),.op,.op,.op])) (.q (.q (.cW (.gH true [] [(38,.one .b)] (.tk [0,1,2,3,4,5] (.split 28 (.tk [6,7,8,9,10,11,12,13,14,15] (.done)) (.tk [6,7,8,9,10,11] (.all [(12,.tk [13,14,15] (.done))])))))) (.c .l .l)) (.q .o5 (.q (.cW (.seq [.op,.op,.op,.cR false 5 [.op,.op,.cR true 2 [.op,.op]],.op,.cR false 10 [.op,.op,.op,.op,.cR true 5 (RI.ops 5)]])) (.c .o5 .l))))))))))) (.q .o4 .l))))
def ZC.v (a:R2)(b:Int)(c:Fv)(d:Hp)(e:Int->Int->Int->Int->Int->Bool->Hp->Prop):Prop:=aV #[.I 0,.I 0,.I 0,.I 0,.I 0] 106 d λf g=>aV #[.I 0,.I 0,.I 0,.I 0,.I 0] 106 g λh i=>bJ a 1 i λk=>oW .i64 (.ag 5) k i λl m=>Ya [.b,.b] (λn=>n false false m) λo (p:Bool) (q:Bool) r=>pG .i64 (.ag 5) l r (aQ h 0 r λs=>aQ h 1 r λt=>aQ h 2 r λu=>aQ h 3 r λv=>aQ h 4 r λw=>aR f 0 (.I s) r λx=>aR f 1 (.I t) x λy=>aR f 2 (.I u) y λz=>aR f 3 (.I v) z λaa=>aR f 4 (.I w) aa λab=>aQ f 0 ab λac=>aQ f 1 ab λad=>aQ f 2 ab λae=>aQ f 3 ab λaf=>aQ f 4 ab λag=>e ac ad ae af ag p ab) (λah ai aj=>oK .i64 (.ag 5) l aj λak al=>aV #[.I 0,.I 0,.I 0,.I 0,.I 0] 106 aj λam an=>aR am 0 (.I al.1) an λao=>aR am 1 (.I al.2.1) ao λap=>aR am 2 (.I al.2.2.1) ap λaq=>aR am 3 (.I al.2.2.2.1) aq λar=>aR am 4 (.I al.2.2.2.2) ar λau=>Jn [.b] (λ(av:Bool) aw=>If av (o p q aw) (aQ am 0 aw λax=>aQ am 1 aw λay=>aQ am 2 aw λaz=>aQ am 3 aw λa0=>aQ am 4 aw λa1=>Xz.c a ax ay az a0 a1 aw λa2 a3=>bV (λa4 a5=>bV (λa6 a7=>If a6 (aQ am 0 a7 λa8=>aQ am 1 a7 λa9=>aQ am 2 a7 λba=>aQ am 3 a7 λbb=>aQ am 4 a7 λbc=>aR h 0 (.I a8) a7 λbd=>
 aR h 1 (.I a9) bd λbe=>aR h 2 (.I ba) be λbf=>aR h 3 (.I bb) bf λbg=>aR h 4 (.I bc) bg λbh=>o true (!a2) bh) (o p q a7)) λbi=>If a4 (bi true a5) (bV (λbj bk=>bi bj bk) λbl=>If ((!a2)==q) (aQ am 4 a5 λbm=>aQ h 4 a5 λbn=>bl (decide (bm>bn)) a5) (bl false a5))) λbo=>If (!p) (bo true a3) (bV (λbp bq=>bo bp bq) λbr=>If (!a2) (br (!q) a3) (br false a3)))) λbs=>dZ au λbt=>gE bt bO ((am.add 0).add 0) λ(bu:Int)=>If (b<bu) (bs true au) (gE bt bO ((am.add 0).add 0) λ(bv:Int)=>aS bt am 0 λbw=>aS bt am 1 λbx=>aS bt am 2 λbz=>aS bt am 3 λb0=>aS bt am 4 λb1=>VH Tryz.prog c [.agg #[.I bw,.I bx,.I bz,.I b0,.I b1]] [.I] au λb2 b3=>And (bt b3) <| bM (bv+b2) λb4=>bs (decide (b≥b4)) b3))
theorem ZC.o {a b c d e}(f:ZC.v a b c d e):ZC.c a b c d e:=Wa Tryz.func59 (x:=ZC.h) (R0 f)
def Y8.h:Hn:=.q .o1 (.q .o5 .l)
def Y8.v (a:R2)(b c:Int)(d:Hp)(e:aN):Prop:=XQ.c a b c true d λf g=>e f g
theorem Y8.o {a b c d e}(f:Y8.v a b c d e):Y8.c a b c d e:=Wa Tryz.func70 (x:=Y8.h) (R0 f)
def XU.h:Hn:=.q .o2 (.q (.q .o3 .aJ) (.q (.o 12) (.q (.q .o2 .aJ) (.q (.q .o3 .aJ) (.q .o5 .l)))))
def XU.v (a:R2)(b:Int)(c:Hp)(d:Sl->Int->Hp->Prop):Prop:=WT.c a c λe f=>If (!e) (d ⟨none,0,0⟩ 5 f) (bJ a 1 f λh=>Lk .i64 (.ag 5) h b f λi=>aV #[.I 0,.I 0,.I 0,.I 0,.I 0] 106 f λj k=>aR j 0 (.I ((i.getD (0,0,0,0,0)).1)) k λl=>aR j 1 (.I ((i.getD (0,0,0,0,0)).2.1)) l λm=>aR j 2 (.I ((i.getD (0,0,0,0,0)).2.2.1)) m λn=>aR j 3 (.I ((i.getD (0,0,0,0,0)).2.2.2.1)) n λo=>aR j 4 (.I ((i.getD (0,0,0,0,0)).2.2.2.2)) o λp=>If (!i.isSome) (d ⟨none,0,0⟩ 8 p) (aQ j 0 p λq=>aQ j 1 p λr=>aQ j 2 p λs=>aQ j 3 p λt=>aQ j 4 p λu=>Xz.c a q r s t u p λv w=>If v (d ⟨none,0,0⟩ 5 w) (aQ j 0 w λx=>aQ j 1 w λy=>aQ j 2 w λz=>aQ j 3 w λaa=>aQ j 4 w λab=>XI.c a x y z aa ab w λac ad=>d ac 0 ad)))
theorem XU.o {a b c d}(e:XU.v a b c d):XU.c a b c d:=Wa Tryz.func71 (x:=XU.h) (R0 e)
def Y4.h:Hn:=.q .o2 (.q (.q .o4 (.q .o2 (.c (.q .o3 .l) .l))) (.q .fZ .l))
def Y4.v (a:R2)(b:Int)(c:Hp)(d:Int->Int->Hp->Prop):Prop:=YY.c a b c λe f=>If (e != 0) (d 0 e f) (bG a 0 f λh=>YD.c h b f λi j k=>d i j k)
theorem Y4.o {a b c d}(e:Y4.v a b c d):Y4.c a b c d:=Wa Tryz.func76 (x:=Y4.h) (R0 e)
def QM.h:Hn:=.q .o1 (.q (.cW (.seq [.op,.op,.op,.cR true 4 (RI.ops 4),.op])) .l)
def QM.v (a:R2)(b:Hp)(c:aO):Prop:=bV (λd e=>c d e) λf=>If (!a.isNone) (XR.c a b λg h i j k l=>f (decide (g>0)) l) (f false b)
theorem QM.o {a b c}(d:QM.v a b c):QM.c a b c:=Wa Tryz.func77 (x:=QM.h) (R0 d)
def XB.h:Hn:=.q .o2 (.q .o8 .l)
def XB.v (a b c d e:Int)(f:Hp)(g:aN):Prop:=aV #[.I a,.I b,.I c,.I d,.I e] 106 f λh i=>bN ((h.add 0).add 1) i λj=>bM (j+8) λk=>bM (k-1) λl=>Nz 8<|bM (l.tdiv 8) λm=>bM (m*8) λn=>g n i
theorem XB.o {a b c d e f g}(h:XB.v a b c d e f g):XB.c a b c d e f g:=Wa Tryz.func98 (x:=XB.h) (R0 h)
def XX.h:Hn:=.q .o2 .aL
def XX.v (a b c d e:Int)(f:Hp)(g:Fv->Hp->Prop):Prop:=aV #[.I a,.I b,.I c,.I d,.I e] 106 f λh i=>g ⟨156,#[],#[.pointer (some h)]⟩ i
theorem XX.o {a b c d e f g}(h:XX.v a b c d e f g):XX.c a b c d e f g:=Wa Tryz.func100 (x:=XX.h) (R0 h)
def ZU.h:Hn:=.q .o1 (.q .o4 .l)
def ZU.v (a:Int)(b:Hp)(c:aN):Prop:=bM (0-a) λd=>bM (d-1) λe=>c e b
theorem ZU.o {a b c}(d:ZU.v a b c):ZU.c a b c:=Wa Tryz.func101 (x:=ZU.h) (R0 d)
def Ys.h:Hn:=.q .o1 (.q .o1 (.k (.loop [(6,.I)] (.q (.q .o4 (.c .l .l)) (.q (.k (.cW (.tail 10 (RI.ops 10) [.op]))) .o3)))))
def Ys.v (a:R2)(b c d e f g:Int)(h:Hp)(i:aP):Prop:=aV #[.I b,.I c,.I d,.I e,.I f] 106 h λj k=>Ya [bO] (λl=>l 0 k) λm (n:Int) o=>aQ j 0 o λp=>aQ j 1 o λq=>aQ j 2 o λr=>aQ j 3 o λs=>aQ j 4 o λt=>XB.c p q r s t o λu v=>If (n<u) (bG a 0 v λx=>bN ((j.add 0).add 0) v λy=>bM (y+n) λz=>XH.c x z g v λaa ab=>bM (n+8) λac=>m ac ab) (i v)
theorem Ys.o {a b c d e f g h i}(j:Ys.v a b c d e f g h i):Ys.c a b c d e f g h i:=Wa Tryz.func102 (x:=Ys.h) (R0 j)
def Xz.h:Hn:=.q .o2 (.q (.cW (.held true [7] (.tk [0,1,2,3,4,5,6] (.all [(7,.tk [8,9,10,11,12] (.done))])))) (.q (.cW (.seq [.op,.op,.op,.cR false 5 (RI.ops 5),.op])) .l))
def Xz.v (a:R2)(b c d e f:Int)(g:Hp)(h:aO):Prop:=aV #[.I b,.I c,.I d,.I e,.I f] 106 g λi j=>dZ j λk=>bX a λl=>aU k l 0 λm=>gE k bO ((i.add 0).add 2) λ(n:Int)=>XS.c m n j λo p q=>bV (λr s=>h r s) λt=>If (p != 0) (t true q) (bN ((i.add 0).add 3) q λu=>t (o != u) q)
theorem Xz.o {a b c d e f g h}(i:Xz.v a b c d e f g h):Xz.c a b c d e f g h:=Wa Tryz.func103 (x:=Xz.h) (R0 i)
def Zb.h:Hn:=.q .o1 (.q .o5 .l)
def Zb.v (a:R2)(b c:Int)(d:Hp)(e:aN):Prop:=XQ.c a b c false d λf g=>e f g
theorem Zb.o {a b c d e}(f:Zb.v a b c d e):Zb.c a b c d e:=Wa Tryz.func109 (x:=Zb.h) (R0 f)
def XQ.h:Hn:=.q .o1 (.q (.q .o3 .aK) (.q (.q .o4 (.q .o2 .aJ)) (.q (.o 12) (.q (.k (.q (.cW (.seq [.op,.op,.op,.cR true 6 (RI.ops 6),.op])) (.c .aM (.q .o3 (.c .aM (.q .o4 (.c .aM (.q (.cW (.seq [.op,.op,.cR true 5 (RI.ops 5),.op])) .aK)))))))) (.q .o3 (.q .o6 (.q .o6 (.q (.cW (.tail 8 (RI.ops 8) [.op])) .aM))))))))
def XQ.v (a:R2)(b c:Int)(d:Bool)(e:Hp)(f:aN):Prop:=WT.c a e λg h=>If (!g) (f 5 h) (Yw.c a b h λi j=>If (i != 0) (f i j) (bJ a 1 j λl=>Lk .i64 (.ag 5) l c j λm=>aV #[.I 0,.I 0,.I 0,.I 0,.I 0] 106 j λn o=>aR n 0 (.I ((m.getD (0,0,0,0,0)).1)) o λp=>aR n 1 (.I ((m.getD (0,0,0,0,0)).2.1)) p λq=>aR n 2 (.I ((m.getD (0,0,0,0,0)).2.2.1)) q λr=>aR n 3 (.I ((m.getD (0,0,0,0,0)).2.2.2.1)) r λs=>aR n 4 (.I ((m.getD (0,0,0,0,0)).2.2.2.2)) s λt=>bV (λu v=>If u (f 9 v) (If (!m.isSome) (f 8 v) (aQ n 0 v λw=>aQ n 1 v λx=>aQ n 2 v λy=>aQ n 3 v λz=>aQ n 4 v λaa=>Xz.c a w x y z aa v λab ac=>If ab (f 5 ac) (bV (λad ae=>If ad (f 10 ae) (aQ n 0 ae λaf=>aQ n 1 ae λag=>aQ n 2 ae λah=>aQ n 3 ae λai=>aQ n 4 ae λaj=>Ys.c a af ag ah ai aj (-1234567) ae λak=>bJ a 1 ak λam=>lG .i64 (.ag 5) am c ak λan=>bJ a 2 an λap=>kH .i64 .b ap c true an λaq=>bG a 0 aq λau=>bN ((n.add 0).add 2) aq λav=>ZF.c au b av aq λaw ax=>f 0 ax)) λay=>If d (aQ n 0 ac λaz=>aQ n 1 ac λa0=>aQ n 2 ac λa1=>aQ n 3 ac λa2=>aQ n 4 ac λa3=>XI.c a az a0 a1 a2 a3 ac λa4 a5=>ay (decide (((a4.len:Nat):Int)>0)) a5) (ay false ac))))) λa6=>If (!m.isSome) (bJ a 2 t λa8=>
 Lk .i64 .b a8 c t λa9=>a6 (a9.getD false) t) (a6 false t)))
theorem XQ.o {a b c d e f}(g:XQ.v a b c d e f):XQ.c a b c d e f:=Wa Tryz.func118 (x:=XQ.h) (R0 g)
def XI.h:TX:=.nx (.o 3) (.nx (.o 1) (.r1 (.o 2) bO (.block (.seq (.o 11) (.seq (.cW (.seq [.op,.op,.op,.cR false 4 [.op,.op,.op,.op]])) (.cond (.o 5) (.leaf))))) (.seq (.o 2) (.leaf))))
def XI.v (a:R2)(b c d e f:Int)(g:Hp)(h:Sl->Hp->Prop):Prop:=aV #[.pointer a] 50 g λi j=>aV #[.I b,.I c,.I d,.I e,.I f] 106 j λk l=>aV #[.slice none 0 0] 31 l λm n=>aQ k 0 n λo=>aQ k 1 n λp=>aQ k 2 n λq=>aQ k 3 n λr=>aQ k 4 n λs=>XX.c o p q r s n λt u=>AP Tryz.prog (e1 bO) t u (λ(v:Int) w x=>fS i x λy=>bG y 0 x λaa=>YD.c aa v x λab ac ad=>bV (λae af=>If ae (ju m af λag=>aV #[.I v] 3 af λah ai=>App ag 1 8 3 [.I 0] ⟨some ah,1,1⟩ ai λaj ak=>dU m (.slice aj.a aj.len aj.cap) ak λal=>w al) (w af)) λam=>If (ac != 0) (am true ad) (ZU.c v ad λan ao=>am (ab != an) ao)) λap=>ju m ap λaq=>uH u.size ap λar=>h aq ar
theorem XI.o {a b c d e f g h}(i:XI.v a b c d e f g h):XI.c a b c d e f g h:=DB Tryz.func119 (x:=XI.h) (R0 i)
def YY.h:Hn:=.q .o1 (.q (.q .o3 .aK) (.q .o9 (.q (.k (.q (.cW (.seq [.op,.op,.op,.cR false 3 (RI.ops 3),.op])) (.c .aM (.q .o4 .aK)))) .aM)))
def YY.v (a:R2)(b:Int)(c:Hp)(d:aN):Prop:=WT.c a c λe f=>If (!e) (d 5 f) (ZC.c a b ⟨98,#[],#[]⟩ f λg h i j k l m=>aV #[.I 0,.I 0,.I 0,.I 0,.I 0] 106 m λn o=>aR n 0 (.I g) o λp=>aR n 1 (.I h) p λq=>aR n 2 (.I i) q λr=>aR n 3 (.I j) r λs=>aR n 4 (.I k) s λt=>bV (λu v=>If u (d 7 v) (aQ n 0 v λw=>aQ n 1 v λx=>aQ n 2 v λy=>aQ n 3 v λz=>aQ n 4 v λaa=>Xz.c a w x y z aa v λab ac=>If ab (d 5 ac) (d 0 ac))) λad=>If (!l) (ad true t) (Nz 8 <| ad ((b.tmod 8) != 0) t))
theorem YY.o {a b c d}(e:YY.v a b c d):YY.c a b c d:=Wa Tryz.func123 (x:=YY.h) (R0 e)
def cI.sF (l:Nat)(cap0:Addr)(U:Hp)(R:aP):Prop:=Dq Tryz.prog 156 #[.func (.yield l) #[] #[],.pointer (some cap0)] U R
def cI.wb:Hn:=.seq (.seq (.o 4) (.block (.loop [(3,.one bO)] (.seq (.seq (.o 5) (.cond (.leaf) (.leaf))) (.seq (.block (.seq (.leaf) (.cond (.leaf) (.leaf)))) (.o 3)))))) (.seq (.cW (.held true [] (.tk [0,1,2,3] (.all [(4,.take 5 (.take 6 (.done)))])))) (.block (.loop [(4,.one bO)] (.seq (.seq (.o 10) (.cond (.leaf) (.leaf))) (.seq (.block (.seq (.leaf) (.cond (.leaf) (.leaf)))) (.o 3))))))
def cI.xu (l:Nat)(cap0:Addr)(U:Hp)(R:aP):Prop:=
 gJ .i64 ((cap0.add 0).add 2) U λvw=>
 Ya [bO] (λI=>I vw U) λJ (vw1:Int) v=>
 gJ .i64 ((cap0.add 0).add 0) v λt11=>
 If (decide (vw1<t11)) (HN Tryz.prog l [.int .i64 vw1] v λmore v1=>
  If (!more) (R v1)
   (Ar .i64 (vw1+8) λvw2=>
   J vw2 v1))
  (dZ v λS=>
  gE S bO ((cap0.add 0).add 0) λ(t21:Int)=>
  gE S bO (cap0.add 0) λ(t22:Int)=>
  gE S bO (cap0.add 1) λ(t221:Int)=>
  gE S bO (cap0.add 2) λ(t222:Int)=>
  gE S bO (cap0.add 3) λ(t223:Int)=>
  gE S bO (cap0.add 4) λ(t224:Int)=>
  XB.c t22 t221 t222 t223 t224 v λt23 v2=>
  And (S v2) <|
  Ar .i64 (t21+t23) λvw3=>
  Ya [bO] (λI1=>I1 vw3 v2) λJ1 (vw4:Int) v3=>
  Ar .i64 (vw4+8) λt26=>
  gJ .i64 ((cap0.add 0).add 2) v3 λt29=>
  gJ .i64 ((cap0.add 0).add 3) v3 λt32=>
  Ar .i64 (t29+t32) λt33=>
  If (decide (t26<=t33)) (HN Tryz.prog l [.int .i64 vw4] v3 λmore1 v4=>
   If (!more1) (R v4)
    (Ar .i64 (vw4+8) λvw5=>
    J1 vw5 v4))
   (R v3))
theorem cI.ua {l:Nat}{cap0:Addr}{U:Hp}{R:aP}(hv:cI.xu l cap0 U R):cI.sF l cap0 U R:=
 T9 Tryz.func156 (x:=cI.wb) (args:=[.func (.yield l) #[] #[],.pointer (some cap0)]) (R:=R) (R0 hv)
def Yw.h:Hn:=.q .o1 (.q (.q (.cW (.seq [.op,.op,.op,.cR false 8 (RI.ops 8)])) .aK) (.q (.q .o7 .aK) .aM))
def Yw.v (a:R2)(b:Int)(c:Hp)(d:aN):Prop:=bV (λe f=>If e (d 1 f) (bG a 0 f λh=>YR.c h b f λi j=>If (!(i.toList==(ByteArray.mk #[]).toList)) (d 5 j) (d 0 j))) λk=>If (b<0) (k true c) (bG a 0 c λm=>XR.c m c λn o p q r s=>k (decide (b≥p)) s)
theorem Yw.o {a b c d}(e:Yw.v a b c d):Yw.c a b c d:=Wa Tryz.func162 (x:=Yw.h) (R0 e)
end Go.Proofs
namespace Go.Ar
open Go Go.Vc Go.Proofs
open Go.Vc (bU dB cT)
variable {U σ0 v w w':Hp}{F P Q X T:Rg}{L:dH}{H H':Hw}{held:List Pc}{s0 sp:Sp}{t n:Nat}{g:Th}{gb km fm m:Nat}
theorem im {S:aP}{b i:Nat}{cs:List Value}{c:CK}{y:c.T}(hS:∀m,S m->bZ m b cs)(hc:cs[i]?=some (c.v y)){K:c.T->Prop}(hK:K y):gE S c (Addr.add ⟨b,0,none⟩ i) K:=
 ⟨y,λm a=>by rw[add_lit,(hS m a).cell,zH];exact hc,hK⟩
theorem qY {S:aP}{b:Nat}{cs:List Value}{c:CK}{y:c.T}(hS:∀m,S m->bZ m b cs)(hc:cs[0]?=some (c.v y)){K:c.T->Prop}(hK:K y):gE S c ⟨b,0,none⟩ K:=
 ⟨y,λm a=>by rw[(hS m a).cell];exact hc,hK⟩
theorem pn {S:aP}{b i j:Nat}{cs:List Value}{c:CK}{y:c.T}(hS:∀m,S m->bZ m b cs)(hc:cs[i+j]?=some (c.v y)){K:c.T->Prop}(hK:K y):gE S c (Addr.add (Addr.add ⟨b,0,none⟩ i) j) K:=
 ⟨y,λm a=>by rw[add_lit,add_lit,(hS m a).cell,zH];exact hc,hK⟩
abbrev B5:=Int×Int×Int×Int×Int
def fI (b:B5):List Value:=[.int .i64 b.1,.int .i64 b.2.1,.int .i64 b.2.2.1,.int .i64 b.2.2.2.1,.int .i64 b.2.2.2.2]
def ZJ (n:Int):Int:=(n+7)/8*8
structure ie (b:B5):Prop where
 s:1<=b.2.1/\b.2.1<=1024
 base:0<=b.2.2.1/\b.2.2.1%8=0
 z:16<=b.1-b.2.2.1/\b.1-b.2.2.1<=256/\b.1%8=0
 t:b.1+ZJ b.2.1+16<=b.2.2.1+b.2.2.2.1/\b.2.2.2.1%8=0
 m:b.2.2.1+b.2.2.2.1<=270000
theorem Z0 {n:Int}(h:0<=n):n<=ZJ n/\ZJ n<=n+7/\ZJ n%8=0:=by unfold ZJ;omega
structure Gu where
 kn:List (Int×B5)
 fr:List (Int×Bool)
 no:Int
def Bd:Gu:=⟨[],[],0⟩
def VE (b:B5):Nat:=(b.1-b.2.2.1).toNat/8
def GQ (b:B5):Nat:=(b.2.2.1+b.2.2.2.1-b.1-ZJ b.2.1).toNat/8
def Zq (b:B5):List Int:=((List.range (VE b)).map λ(i:Nat)=>b.2.2.1+8*(i:Int))++(List.range (GQ b)).map λ(i:Nat)=>b.1+ZJ b.2.1+8*(i:Int)
theorem GB (b:B5):(Zq b).length=VE b+GQ b:=by unfold Zq;simp
theorem M4 {b:B5}{i:Nat}(h:i<VE b):(Zq b)[i]?=some (b.2.2.1+8*(i:Int)):=by
 unfold Zq;rw[zd (by simpa using h)];simp[h]
theorem LK {b:B5}{i:Nat}(h:i<GQ b):(Zq b)[VE b+i]?=some (b.1+ZJ b.2.1+8*(i:Int)):=by
 unfold Zq;rw[zm aA];simp[h]
theorem HF {b:B5}(bi:ie b){z:Int}(hz:z∈Zq b):b.2.2.1<=z/\z%8=0/\z+8<=b.2.2.1+b.2.2.2.1/\(z+8<=b.1\/b.1+ZJ b.2.1<=z):=by
 obtain⟨s,⟨u,r⟩,⟨g,p,e⟩,⟨t,j⟩,m⟩:=bi;have d:=Z0 (n:=b.2.1) O;unfold Zq at hz;rcases zK.1 hz with h|h
 ·obtain⟨i,a,rfl⟩:=zF.1 h;have:=zh.1 a;unfold VE at this;exact⟨O,O,O,.inl O⟩
 ·obtain⟨i,a,rfl⟩:=zF.1 h;have:=zh.1 a;unfold GQ at this;exact⟨O,O,O,.inr O⟩
def jI (z:Int):Int:=-z-1
def sv (hp km fm:Nat)(x:Gu):List Value:=[.pointer (some ⟨hp,0,none⟩),.map (some km),.map (some fm),.int .i64 x.no]
structure GP (σ0 U:Hp) (L:dH) (H:Hw) (held:List Pc) (s0:Sp) (P:Rg) (gb km fm:Nat) (x:Gu):Prop where
 e:bL σ0 U
 h:HH U P L H
 hi:HI H held s0
 cf:lO H
 pg:H.cf.aF<=128
 pP:∀b,P b->σ0.size<=b/\b<U.size
 rW:σ0.size<=gb/\¬P gb
 tX:σ0.size<=km/\¬P km
 tJ:σ0.size<=fm/\¬P fm
 n1:gb≠km
 n2:gb≠fm
 n3:km≠fm
 b:bZ U gb (sv L.p km fm x)
 m:dJ U km .i64 (.ag 5) x.kn
 f:dJ U fm .i64 .b x.fr
 g0:iW (λb=>σ0.size<=b)/\¬σ0.size<=1
variable {x y:Gu}
theorem GP.fr (p:GP σ0 U L H held s0 P gb km fm x)(e:bL U w):GP σ0 w L H held s0 P gb km fm x:=
 ⟨p.e.trans e,p.h.bP e,p.hi,p.cf,p.pg,λb a=>⟨(p.pP b a).1,by have:=(p.pP b a).2;have:=e.1;omega⟩,p.rW,p.tX,p.tJ,p.n1,p.n2,p.n3,e.bW p.b id,e.fR p.m id,e.fR p.f id,p.g0⟩
theorem GP.out (p:GP σ0 U L H held s0 P gb km fm x)(e:Ext T U w)(hT:∀b,b<U.size->T b->¬P b/\b≠gb/\b≠km/\b≠fm/\σ0.size<=b):GP σ0 w L H held s0 P gb km fm x:=by
 have s:=e.1;have a:=p.b.lt;have j:=p.m.lt;have g:=p.f.lt;have i:Ext (λb=>T b/\b<U.size) U w:=⟨e.1,λb a g=>e.2 b a λd=>g ⟨d,a⟩⟩;refine⟨Ext.dS p.e i λb a=>.inr (hT b a.2 a.1).2.2.2.2,p.h.bT i (λb a r d=>(hT b a d.1).1 r) (λb a=>?_) (λa=>?_),p.hi,p.cf,p.pg,λb a=>⟨(p.pP b a).1,by have:=(p.pP b a).2;omega⟩,p.rW,p.tX,p.tJ,p.n1,p.n2,p.n3,e.bW p.b λd=>(hT gb a d).2.1 rfl,e.fR p.m λd=>(hT km j d).2.2.1 rfl,e.fR p.f λd=>(hT fm g d).2.2.2.1 rfl,p.g0⟩
 ·exact p.g0.1 b (hT b a.2 a.1).2.2.2.2
 ·exact p.g0.2 (hT _ a.2 a.1).2.2.2.2
theorem GP.step (p:GP σ0 U L H held s0 P gb km fm x){ts':List eJ}(e:Ext P U w)(h':HH w (Grow P U) {L with ts:=ts'} H'){held':List Pc}{s0':Sp}(hi':HI H' held' s0')(k:QQ H' H) :
 GP σ0 w {L with ts:=ts'} H' held' s0' (Cut (Grow P U) w) gb km fm x:=by
 have u:=e.1;have a:=p.b.lt;have j:=p.m.lt;have r:=p.f.lt;have d:∀b,b<U.size->¬P b->¬Cut (Grow P U) w b:=λb g s i=>by
  rcases i.1 with h3|h3
  ·exact s h3
  ·omega
 refine⟨Ext.dS p.e e λb a=>.inr (p.pP b a).1,h'.cut,hi',p.cf.bT k,by rw[k.2.1];exact p.pg,λb a=>⟨?_,a.2⟩,⟨p.rW.1,d gb a p.rW.2⟩,⟨p.tX.1,d km j p.tX.2⟩,⟨p.tJ.1,d fm r p.tJ.2⟩,p.n1,p.n2,p.n3,e.bW p.b p.rW.2,e.fR p.m p.tX.2,e.fR p.f p.tJ.2,p.g0⟩;have:=p.e.1;rcases a.1 with g|g
 ·exact(p.pP b g).1
 ·omega
theorem GP.eZ (p:GP σ0 U L H held s0 P gb km fm x)(e:Ext (λb=>b=gb\/b=km\/b=fm) U w)(hb:bZ w gb (sv L.p km fm y))(hm:dJ w km .i64 (.ag 5) y.kn)(hf:dJ w fm .i64 .b y.fr):GP σ0 w L H held s0 P gb km fm y:=by
 have i:=e.1;have a:∀b,(b=gb\/b=km\/b=fm)->σ0.size<=b/\¬P b:=λb hb=>by
  rcases hb with rfl|rfl|rfl
  ·exact p.rW
  ·exact p.tX
  ·exact p.tJ
 exact⟨Ext.dS p.e e λb hb=>.inr (a b hb).1,p.h.bT e (λb _ g d=>(a b d).2 g) (λb hb=>p.g0.1 b (a b hb).1) (λhb=>p.g0.2 (a _ hb).1),p.hi,p.cf,p.pg,λb hb=>⟨(p.pP b hb).1,by have:=(p.pP b hb).2;omega⟩,p.rW,p.tX,p.tJ,p.n1,p.n2,p.n3,hb,hm,hf,p.g0⟩
theorem UY (p:GP σ0 U L H held s0 P gb km fm x){R:aO}(hR:R true U):WT.c (aW gb) U R:=by
 refine WT.o ?_;unfold WT.v;exact bV.intro (cD rfl (aG (p.b.rP rfl hR)))
theorem Ht (b:B5)(h0:0<=b.2.1)(h1:b.2.1<=1000000){R:aN}(hR:∀σ',bL U σ'->R (ZJ b.2.1) σ'):XB.c b.1 b.2.1 b.2.2.1 b.2.2.2.1 b.2.2.2.2 U R:=by
 refine XB.o ?_;unfold XB.v;refine nw (cs:=fI b) λv d e a=>a.gC rfl (ar O O (ar O O (nz aB (ar (by rw[YK O];omega) (by rw[YK O];omega) ?_))));rw[YK O];refine ar O O ?_;have:(b.2.1+8-1)/8*8=ZJ b.2.1:=by unfold ZJ;omega
 rw[this];exact hR v e
theorem F9 (z:Int)(h0:0<=z)(h1:z<=1000000){R:aN}(hR:R (jI z) U):ZU.c z U R:=by
 refine ZU.o ?_;unfold ZU.v;refine ar O O (ar O O ?_);have:0-z-1=jI z:=by unfold jI;omega
 rw[this];exact hR
theorem Ig (b:B5){R:Fv->Hp->Prop}(hR:∀σ',σ'.size=U.size+1->bL U σ'->bZ σ' U.size (fI b)->R ⟨156,#[],#[.pointer (some ⟨U.size,0,none⟩)]⟩ σ'):XX.c b.1 b.2.1 b.2.2.1 b.2.2.2.1 b.2.2.2.2 U R:=by
 refine XX.o ?_;unfold XX.v;exact nw (cs:=fI b) λv d e a=>hR v d e a
theorem FC {P:Program}{l:Nat}{args:List Value}{h:Hp}{R R':Bool->Hp->Prop}(hy:HN P l args h R)(hm:∀b w,R b w->R' b w):HN P l args h R':=λw d=>by
 obtain⟨i,a,j,s,u,r⟩:=hy w d;exact⟨i,a,j,s,u,r.mono λe x ⟨m,b,g,p⟩=>⟨m,b,g,hm _ _ p⟩⟩
theorem I0 {b:B5}(bi:ie b):we Tryz.prog ⟨156,#[],#[.pointer (some ⟨n,0,none⟩)]⟩ ((Zq b).map (e1 bO)) (λs=>bZ s n (fI b)):=by
 intro l J hst hKp hy h h0;obtain⟨s,⟨K,Q⟩,⟨L,N,H⟩,⟨t,M⟩,R⟩:=bi;have P:=Z0 (n:=b.2.1) O;have F:(VE b:Int)*8=b.1-b.2.2.1:=by unfold VE;omega
 have E:(GQ b:Int)*8=b.2.2.1+b.2.2.2.1-b.1-ZJ b.2.1:=by unfold GQ;omega
 show cI.sF l ⟨n,0,none⟩ h λC=>J ((Zq b).map (e1 bO)).length C;rw[zk,GB];refine cI.ua ?_;unfold cI.xu;refine(hKp 0 h h0).gC rfl (Qg (a:=bO) (λ(z:Int) s=>∃i:Nat,z=b.2.2.1+8*(i:Int)/\i<=VE b/\J i s) (λz _=>(b.1-z).toNat) ⟨0,O,O,h0⟩ ?_);rintro(z:Int) s ⟨i,rfl,hi,hJ⟩;have B:=hKp i s hJ;refine B.gC rfl (cQ (λA=>?_) λw=>?_)
 ·have d:i<VE b:=by omega
  have x:((Zq b).map (e1 bO))[i]?=some [Value.int .i64 (b.2.2.1+8*(i:Int))]:=by rw[za,M4 d];rfl
  refine FC (hy i _ x s hJ) λG D ⟨g,j⟩=>?_;subst g;exact cE rfl (ar O O ⟨⟨i+1,O,O,j⟩,O⟩)
 ·have d:i=VE b:=by omega
  subst d;have p:∀m,bL s m->bZ m n (fI b):=λm e=>e.bW B id;refine⟨λm=>bL s m,Ext.refl _ _,pn (c:=bO) (y:=b.1) p rfl (im (c:=bO) (y:=b.1) p rfl (im (c:=bO) (y:=b.2.1) p rfl (im (c:=bO) (y:=b.2.2.1) p rfl (im (c:=bO) (y:=b.2.2.2.1) p rfl (im (c:=bO) (y:=b.2.2.2.2) p rfl ?_)))))⟩;refine Ht b O O λs1 r=>⟨r,ar O O ?_⟩;refine Qg (a:=bO) (λ(z:Int) s=>∃i:Nat,z=b.1+ZJ b.2.1+8*(i:Int)/\i<=GQ b/\J (VE b+i) s) (λz _=>(b.2.2.1+b.2.2.2.1-z).toNat) ⟨0,O,O,hst _ _ _ hJ r⟩ ?_;rintro(z:Int) s2 ⟨i,rfl,hi,hJ2⟩;have u:=hKp _ s2 hJ2;refine ar O O (u.gC rfl (u.gC rfl (ar O O (cQ (λA=>?_) λw=>?_))))
  ·have d:i<GQ b:=by omega
   have x:((Zq b).map (e1 bO))[VE b+i]?=some [Value.int .i64 (b.1+ZJ b.2.1+8*(i:Int))]:=by rw[za,LK d];rfl
   refine FC (hy _ _ x s2 hJ2) λG D ⟨g,j⟩=>?_;subst g;exact cE rfl (ar O O ⟨⟨i+1,O,O,j⟩,O⟩)
  ·have d:i=GQ b:=by omega
   subst d;exact hJ2
def Ut (H:Hw)(b:B5):Bool:=!(Kf H b.2.2.1==some b.2.2.2.1)
theorem GW (p:GP σ0 U L H held s0 P gb km fm x)(b:B5){R:aO}(hR:∀σ',bL U σ'->R (Ut H b) σ'):Xz.c (aW gb) b.1 b.2.1 b.2.2.1 b.2.2.2.1 b.2.2.2.2 U R:=by
 refine Xz.o ?_;unfold Xz.v;refine nw (cs:=fI b) λv s e j=>?_;have g:=p.fr e;refine⟨λm=>bL v m,Ext.refl _ _,aG (im (c:=.p) (y:=some ⟨L.p,0,none⟩) (λm e=>e.bW g.b id) rfl (pn (c:=bO) (y:=b.2.2.1) (λm e=>e.bW j id) rfl (Jy g.h b.2.2.1 λr e1=>?_)))⟩;have d:=e1.bW j id;have a:=hR r (e.trans e1);refine bV.intro ?_;cases hu:Kf H b.2.2.1 with
 | none=>
  unfold Ut at a;rw[hu]at a;exact cD rfl a
 | some u=>
  unfold Ut at a;rw[hu]at a;refine cE rfl (d.gC rfl ?_);have:(!(some u==some b.2.2.2.1))=((some u).getD 0 != b.2.2.2.1):=by simp[bne]
  rw[this]at a;exact a
def QU (H:Hw)(thread:Int):Int:=if thread<0\/thread≥(H.cf.threads:Int)then 1 else if(Ur H thread).isSome then 5 else 0
theorem NM (p:GP σ0 U L H held s0 P gb km fm x)(thread:Int){R:aN}(hR:∀σ',bL U σ'->R (QU H thread) σ'):Yw.c (aW gb) thread U R:=by
 refine Yw.o ?_;unfold Yw.v;refine KH (λr u=>bL U u/\r=decide (thread<0\/thread≥(H.cf.threads:Int))) (λr u ⟨d,i⟩=>?_) λJ j=>?_
 ·by_cases hc:thread<0\/thread≥(H.cf.threads:Int)
  ·have a:=hR u d;unfold QU at a;rw[zC hc]at a;exact cD (by rw[i];exact zJ hc) a
  ·have g:=p.fr d;refine cE (by rw[i];exact zL hc) (aG (g.b.rP rfl (E0 g.h thread λs y e2 m=>?_)));have a:=hR y (d.trans e2);unfold QU at a;rw[zB hc]at a;rw[m];cases hp:Ur H thread with
   | none=>rw[hp]at a;exact cE rfl a
   | some q=>rw[hp]at a;exact cD rfl a
 ·refine cQ (λh=>j _ _ ⟨Ext.refl _ _,by rw[zJ];exact .inl h⟩) λh=>aG (p.b.rP rfl (Gs p.h λu e=>j _ _ ⟨e,?_⟩));rw[kT,decide_eq_true_iff,decide_eq_true_iff];exact⟨.inr,λw=>w.resolve_left h⟩
theorem SC (h:HH U F L H)(hp:1<=H.cf.aF){R:aO}(hR:∀σ',bL U σ'->R true σ'):QM.c (aW L.p) U R:=by
 refine QM.o ?_;unfold QM.v;refine bV.intro (cD rfl (Gs h λw e=>?_));have:decide ((H.cf.aF:Int)>0)=true:=zJ O;rw[this];exact hR w e
theorem Ie (e0:bL σ0 U)(h:HH U P L H)(hi:HI H held s0)(hc:lO H)(hpg:H.cf.aF<=128)(hP:∀b,P b->σ0.size<=b/\b<U.size)(hg:iW (λb=>σ0.size<=b)/\¬σ0.size<=1){R:Option Addr->Int->Hp->Prop}
 (hR:∀w gb km fm,bL U w->U.size<=gb/\U.size<=km/\U.size<=fm->GP σ0 w L H held s0 P gb km fm Bd->R (some ⟨gb,0,none⟩) 0 w):QY.c (aW L.p) U R:=by
 refine QY.o ?_;unfold QY.v;refine SC h hc.1 λv e=>cE rfl (ud λi x e1 z=>ud λu s e2 y=>nw (cs:=sv L.p v.size i.size Bd) λv3 r d m=>?_);have D:=e.1;have B:=e0.1;have a:=((e.trans e1).trans e2).trans d;have g:∀b,U.size<=b->¬P b:=λb C A=>by have:=(hP b A).2;omega
 exact hR v3 u.size v.size i.size a ⟨O,O,O⟩ ⟨e0.trans a,h.bP a,hi,hc,hpg,λb j=>⟨(hP b j).1,by have:=(hP b j).2;have:=a.1;omega⟩,⟨O,g _ O⟩,⟨O,g _ O⟩,⟨O,g _ O⟩,O,O,O,m,(e2.trans d).fR (z _ _) id,d.fR (y _ _) id,hg⟩
end Go.Ar
namespace Go.Ar
open Go Go.Vc Go.Proofs
open Go.Vc (bU dB cT)
variable {U σ0 v w w':Hp}{F P Q X T:Rg}{L:dH}{H H':Hw}{held:List Pc}{s0 sp:Sp}{t n:Nat}{g:Th}{gb km fm m:Nat}{x y:Gu}{b:B5}
def jJ (sp:Sp)(l:List Int)(f:Int->Int):Sp:=l.foldl (λs z=>ZM s z (f z)) sp
theorem SF (sp:Sp)(z:Int)(l:List Int)(f:Int->Int):jJ sp (z::l) f=jJ (ZM sp z (f z)) l f:=rfl
theorem Bw (sp:Sp)(l:List Int)(z:Int)(f:Int->Int):jJ sp (l++[z]) f=ZM (jJ sp l f) z (f z):=by unfold jJ;rw[vt];rfl
theorem UP {sp:Sp}{x:Nat}:eO sp ((8*x:Nat):Int)=0↔gf sp.st (x/32)≠0:=by
 unfold eO;rw[zB O,show((8*x:Nat):Int).toNat/256=x/32 by omega];unfold gf;split
 ·rename_i h;rw[h];simp
 ·rename_i h;exact⟨λ_=>h,λ_=>rfl⟩
theorem yz (sp:Sp)(x:Nat):Ka sp ((8*x:Nat):Int)=if gf sp.st (x/32)≠0 then sp.wd x else 0:=by
 unfold Ka;by_cases h:gf sp.st (x/32)≠0
 ·rw[zC (UP.2 h),zC h];congr 1;omega
 ·rw[zB (λa=>h (UP.1 a)),zB h]
theorem Ag (f:Int->Int):∀(l:List Int) (sp:Sp),(∀z∈l,0<=z/\z%8=0)->(jJ sp l f).st.length=sp.st.length/\(∀p,gf (jJ sp l f).st p=0↔gf sp.st p=0) ∧
 ∀w:Nat,(jJ sp l f).wd w=if((8*w:Nat):Int)∈l/\gf sp.st (w/32)≠0 then f ((8*w:Nat):Int)else sp.wd w
 | [],sp,_=>⟨rfl,λ_=>Iff.rfl,λw=>by rw[zB aA];rfl⟩
 | z::l,sp,hl=>by
  obtain⟨i1,i2,i3⟩:=Ag f l (ZM sp z (f z)) λz a=>hl z (mS _ a);obtain⟨g,b,d⟩:=C7 sp z (f z);have m:=hl z ni;obtain⟨zn,rfl⟩:∃c:Nat,z=((8*c:Nat):Int):=⟨z.toNat/8,O⟩;rw[SF];refine⟨i1.trans g,λp=>(i2 p).trans (b p),λw=>?_⟩;rw[i3,d];have a:=b (w/32);by_cases hm:gf sp.st (w/32)≠0
  ·by_cases hw:((8*w:Nat):Int)∈l
   ·rw[zC ⟨hw,λh=>hm (a.1 h)⟩,zC ⟨mS _ hw,hm⟩]
   ·rw[zB λh=>hw h.1];by_cases he:w=zn
    ·subst he;rw[zC ⟨UP.2 hm,O⟩,zC ⟨ni,hm⟩]
    ·rw[zB λh=>he (by have:=h.2;omega),zB λh=>(zX.1 h.1).elim (λh=>he O) hw]
  ·have key:¬(eO sp ((8*zn:Nat):Int)=0/\w=((8*zn:Nat):Int).toNat/8):=λh=>by
    have i:=UP.1 h.1;have j:w=zn:=by omega
    subst j;exact hm i
   rw[zB λh=>hm λe=>h.2 (a.2 e),zB key,zB λh=>hm h.2]
theorem HI.jJ (f:Int->Int):∀(l:List Int) {H:Hw} {s0:Sp},HI H held s0->∃s0',HI {H with sp:=Go.Ar.jJ H.sp l f} held s0'
 | [],H,s0,h=>⟨s0,h⟩
 | z::l,H,s0,h=>HI.jJ f l (h.write z (f z))
theorem Vt {f:Int->Int}{l:List Int}{sp:Sp}(hl:∀z∈l,0<=z/\z%8=0)(w:Nat):Ka (jJ sp l f) ((8*w:Nat):Int)=if((8*w:Nat):Int)∈l/\gf sp.st (w/32)≠0 then f ((8*w:Nat):Int)else Ka sp ((8*w:Nat):Int):=by
 obtain⟨_,a,b⟩:=Ag f l sp hl;rw[yz,yz];by_cases hm:gf sp.st (w/32)≠0
 ·rw[zC λh=>hm ((a _).1 h),b];by_cases hw:((8*w:Nat):Int)∈l
  ·rw[zC ⟨hw,hm⟩,zC ⟨hw,hm⟩]
  ·rw[zB λh=>hw h.1,zB λh=>hw h.1,zC hm]
 ·rw[zB λh=>hm λd=>h ((a _).2 d),zB λh=>hm h.2,zB hm]
def Qm (b:B5):Nat:=(ZJ b.2.1/8).toNat
def Yb (b:B5):List Int:=(List.range (Qm b)).map λ(i:Nat)=>b.1+8*(i:Int)
theorem HC (bi:ie b){z:Int}(hz:z∈Yb b):b.1<=z/\z%8=0/\z+8<=b.1+ZJ b.2.1:=by
 obtain⟨s,⟨u,r⟩,⟨g,p,e⟩,⟨t,j⟩,m⟩:=bi;have d:=Z0 (n:=b.2.1) O;obtain⟨i,a,rfl⟩:=zF.1 hz;have:=zh.1 a;unfold Qm at this;omega
theorem GP.write (p:GP σ0 U L H held s0 P gb km fm x)(gc:Gc σ0)(z u:Int)(hz:z<=9223372036854775807){R:aN}
 (hR:∀w s0' P',Ext P U w->GP σ0 w L {H with sp:=ZM H.sp z u} held s0' P' gb km fm x->(∀c,P' c->P c\/U.size<=c)->R (eO H.sp z) w):XH.c (aW L.p) z u U R:=by
 refine R3 p.h (gc.bP p.e) z u hz λw e a=>?_;exact hR w _ _ e (p.step (ts':=L.ts) e a (p.hi.write z u) ⟨rfl,rfl,rfl,rfl⟩) λc b=>b.1
theorem FT {D:Nat}{s:Hp}{K:aP}(h:s[D]?=some (.deferred (some [])))(hK:∀w,Ext (· = D) s w->K w):uH D s K:=
 ⟨h,hK _ ⟨by simp,λb d a=>by rw[Array.getElem?_setIfInBounds,zB λh=>a h.symm]⟩⟩
set_option maxRecDepth 8000 in
theorem Im (p:GP σ0 U L H held s0 P gb km fm x)(gc:Gc σ0)(bi:ie b)(val:Int){R:aP}
 (hR:∀w s0' P',Ext P U w->GP σ0 w L {H with sp:=jJ H.sp (Yb b) λ_=>val} held s0' P' gb km fm x->(∀c,P' c->P c\/U.size<=c)->R w):Ys.c (aW gb) b.1 b.2.1 b.2.2.1 b.2.2.2.1 b.2.2.2.2 val U R:=by
 obtain⟨⟨s1,s2⟩,⟨M,X⟩,⟨N,S,K⟩,⟨t,Q⟩,Y⟩:=bi;have W:=Z0 (n:=b.2.1) O;have Z:(Qm b:Int)*8=ZJ b.2.1:=by unfold Qm;omega
 refine Ys.o ?_;unfold Ys.v;refine nw (cs:=fI b) λv V e E=>?_;refine Qg (a:=bO) (λ(z:Int) u=>∃(i:Nat) (s0':Sp) (P':Rg),z=8*(i:Int)/\i<=Qm b/\Ext P v u/\bZ u U.size (fI b)/\GP σ0 u L {H with sp:=jJ H.sp ((List.range i).map λ(j:Nat)=>b.1+8*(j:Int)) λ_=>val} held s0' P' gb km fm x/\∀c,P' c->P c\/v.size<=c) (λz _=>(ZJ b.2.1-z).toNat)
  ⟨0,s0,P,O,O,Ext.refl _ _,E,p.fr e,λc d=>.inl d⟩ ?_
 rintro(z:Int) u ⟨i,s0',P',rfl,hi,eu,hbu,pu,hP⟩;refine hbu.rI rfl (hbu.rI rfl (hbu.rI rfl (hbu.rI rfl (hbu.rI rfl (Ht b O O λD e1=>?_)))));have g:=e1.bW hbu id;have s:=pu.fr e1;refine cQ (λJ=>?_) λF=>?_
 ·refine aG (s.b.rP rfl (g.gC rfl (ar O O (s.write gc _ val O λu2 m P'' e2 A r=>?_))));have C:=e1.1;have B:=eu.1;refine ar O O ⟨⟨i+1,m,P'',O,O,Ext.dS (eu.fT e1) e2 hP,e2.bW g λG=>?_,?_,λc d=>?_⟩,O⟩
  ·rcases hP _ G with h|h
   ·have:=(p.pP _ h).2;omega
   ·omega
  ·rw[pZ,jU,List.map_singleton,Bw];exact A
  ·rcases r c d with h|h
   ·exact hP c h
   ·exact .inr O
 ·have y:i=Qm b:=by omega
  subst y;refine hR D _ _ ((bL.to e).trans (eu.fT e1)) s λc d=>?_;have:=e.1;exact(hP c d).imp id λh=>by omega
def jE (sp:Sp)(z:Int):Bool:=eO sp z != 0||Ka sp z != jI z
def QC (sp:Sp)(b:B5):List Int:=(Zq b).filter (jE sp)
set_option maxRecDepth 16000 in
theorem DT (p:GP σ0 U L H held s0 P gb km fm x)(bi:ie b){R:Sl->Hp->Prop}
 (hR:∀s w Q,bL U w->bS s 1 (WD (QC H.sp b)) w Q->(∀c,Q c->U.size<=c/\c<w.size)->R s w):XI.c (aW gb) b.1 b.2.1 b.2.2.1 b.2.2.2.1 b.2.2.2.2 U R:=by
 refine XI.o ?_;unfold XI.v;refine nw (cs:=[.pointer (some ⟨gb,0,none⟩)]) λv1 hz1 e1 b1=>nw (cs:=fI b) λM hz2 e2 b2=>nw (cs:=[.slice none 0 0]) λv3 hz3 e3 b3=>?_;have j:=e3.bW b2 id;have b1':=(e2.trans e3).bW b1 id;refine j.rI rfl (j.rI rfl (j.rI rfl (j.rI rfl (j.rI rfl (Ig b λW hz4 e4 b4=>?_)))));have S:=((e1.trans e2).trans e3).trans e4;have hzs:(Zq b).length<=100000:=by
  obtain⟨⟨s1,s2⟩,⟨b1,b2⟩,⟨z1,z2,z3⟩,⟨t,t2⟩,hm⟩:=bi;have hw:=Z0 (n:=b.2.1) O;rw[GB];unfold VE GQ;omega
 refine⟨rfl,by kernel_rfl,Zq b,_,λk s=>bL U s/\bZ s U.size [.pointer (some ⟨gb,0,none⟩)]/\bZ s v3.size (fI b)/\∃(sl:Sl) (Q:Rg),bZ s M.size [.slice sl.a sl.len sl.cap]/\bS sl 1 (WD (((Zq b).take k).filter (jE H.sp))) s Q/\∀c,Q c->W.size+2<=c/\c<s.size,I0 bi,?_,λk s h=>h.2.2.1,?_,?_,?_⟩
 ·rintro k s s' ⟨B,E,G,sl,Q,C,D,A⟩ e;have hz:=e.1;refine⟨Ext.dS B e λc d=>.inr O,e.bW E O,e.bW G O,sl,Q,e.bW C O,aI.bT D e λc _ Z d=>?_,λc d=>?_⟩
  ·have:=A c Z;omega
  ·have:=A c d;omega
 ·exact⟨S,(e4).bW b1' id,b4,⟨none,0,0⟩,λ_=>False,e4.bW b3 id,⟨rfl,.inl ⟨rfl,rfl⟩⟩,λc d=>d.elim⟩
 ·rintro k z Y s ⟨B,E,G,sl,Q,C,D,A⟩ hsz;have zi:=HF bi (zG Y);have N:=bi.base;have hm:=bi.m;have hkl:=(cZ.1 Y).1;have ps:=p.fr B;have K:(Zq b).take (k+1)=(Zq b).take k++[z]:=by rw[ko,Y];rfl
  refine E.qd rfl (aG (ps.b.rP rfl (Cs ps.h z O λv5 g=>?_)));have hz5:=g.1;refine KH (λr u=>u=v5/\r=jE H.sp z) (λr u ⟨hu,hr⟩=>?_) λJ hJ=>?_
  ·subst hu;have F:=aI.bP D g;have i:∀c,Q c->c≠W.size/\c≠W.size+1/\c≠U.size/\c≠v3.size/\c≠M.size:=λc d=>by have:=A c d;omega
   refine cU (λN=>?_) λN=>?_
   ·refine(g.bW C id).uR rfl (BN F ?_ z λs' v8 V h8=>?_)
    ·have B:=pd (jE H.sp) ((Zq b).take k);rw[zY]at B;omega
    have hz8:=V.1;have h48:=V.bW (g.bW C id) λd=>(i _ d).2.2.2.2 rfl;refine h48.s0 aA λv9 o9 h9=>?_;have e9:=o9.ext;have hz9:=o9.1;have y:Ext (λc=>Q c\/c=M.size) u v9:=(V.sub λc d=>.inl d).trans (e9.sub λc d=>.inr d);refine⟨⟨Ext.dS (B.trans g) y λc d=>?_,y.bW (g.bW E id) ?_,y.bW (g.bW G id) ?_,s',λc=>Q c\/u.size<=c/\c<v8.size,h9,?_,λc d=>?_⟩,?_,?_⟩
    ·rcases d with d|d
     ·have:=A c d;exact .inr O
     ·exact .inr O
    ·rintro(d|d)
     ·exact(i _ d).2.2.1 rfl
     ·omega
    ·rintro(d|d)
     ·exact(i _ d).2.2.2.1 rfl
     ·omega
    ·have:((Zq b).take (k+1)).filter (jE H.sp)=((Zq b).take k).filter (jE H.sp)++[z]:=by
      rw[K,xk,vW (by rw[←hr];exact N)];rfl
     rw[this];refine aI.bT h8 e9 λc _ d (hx:c=M.size)=>?_;rcases d with d|d
     ·exact(i _ d).2.2.2.2 hx
     ·omega
    ·rcases d with d|d
     ·have:=A c d;omega
     ·omega
    ·rw[y.2 _ O (by rintro(d|d);exact(i _ d).1 rfl;omega)];exact g.2 _ O id
    ·rw[y.2 _ O (by rintro(d|d);exact(i _ d).2.1 rfl;omega)];exact g.2 _ O id
   ·refine⟨⟨B.trans g,g.bW E id,g.bW G id,sl,Q,g.bW C id,?_,λc d=>?_⟩,g.2 _ O id,g.2 _ O id⟩
    ·have:((Zq b).take (k+1)).filter (jE H.sp)=((Zq b).take k).filter (jE H.sp):=by
      rw[K,xk,wN (by rw[←hr,N];decide),List.filter_nil,lC]
     rw[this];exact F
    ·have:=A c d;omega
  ·refine cU (λh=>hJ _ _ ⟨rfl,by unfold jE;rw[h];rfl⟩) λh=>F9 z O O (hJ _ _ ⟨rfl,by unfold jE;rw[h];rfl⟩)
 ·rintro s ⟨B,E,G,sl,Q,C,D,A⟩ hD;rw[l0]at D;refine C.uR rfl (FT hD λw X=>?_);have hz:=X.1;refine hR sl w Q (Ext.dS B X λc d=>.inr O) (aI.bT D X λc _ Z d=>?_) λc d=>?_
  ·have:=A c Z;omega
  ·have:=A c d;omega
end Go.Ar
namespace Go.Ar
open Go Go.Vc Go.Proofs
open Go.Vc (bU dB cT)
variable {U w w':Hp}{F P Q X:Rg}{L:dH}{H H':Hw}{held:List Pc}{s0:Sp}{t n:Nat}{g:Th}{σ0:Hp}{addrs:Sl}{ad:List Int}{l:Sl}{ds:List gQ}
theorem fU.push (p:fU σ0 U L H held s0 P Q addrs ad){s':Sl}{x:Int}(e:Ext Q U w)(hr:bS s' 1 (WD (ad++[x])) w (λb=>Q b\/U.size<=b/\b<w.size))(hl:(ad++[x]).length<=60):fU σ0 w L H held s0 P (λb=>Q b\/U.size<=b/\b<w.size) s' (ad++[x]):=by
 have j:=e.1;have g:=p.e.1;refine⟨Ext.dS p.e e λb a=>.inr (p.pQ b a).1,p.h.bT e (λb a d i=>(p.pQ b i).2.2 d) (λb a=>p.g0.1 b (p.pQ b a).1) (λa=>p.g0.2 (p.pQ _ a).1),p.hi,p.cf,p.pg,λb a=>⟨(p.pP b a).1,by have:=(p.pP b a).2;omega⟩,λb a=>?_,hr,hl,p.g0⟩;rcases a with a|a
 ·exact⟨(p.pQ b a).1,by have:=(p.pQ b a).2.1;omega,(p.pQ b a).2.2⟩
 ·exact⟨O,a.2,λd=>by have:=(p.pP b d).2;omega⟩
theorem FU {tb:List cA}{size align:Int}{k:Nat}(h:gV tb size align=some k):∃c,tb[k]?=some c/\size<=(c.size:Int)/\(c.size:Int)%align=0:=by
 unfold gV at h;obtain⟨b,a,_⟩:=nG.1 h;simp only[zE,zU,zT]at a;exact⟨tb[k],cX b,a.1,a.2⟩
theorem SY {tb:List cA}{size align:Int}(h:size<=16384/\U4 size align=true):size<=(oP tb size align).1/\(oP tb size align).2=0:=by
 unfold oP;rw[zC h];refine⟨?_,rfl⟩;cases hc:gV tb size align with
 | some k=>
  obtain⟨c,a,b,_⟩:=FU hc;simp only;rw[zQ,a];exact b
 | none=>simp only;unfold yO;omega
theorem Cu {live:List (Int×Bk)}{x:Int}(b:Bk):bU (dB live x b) x=some b:=by rw[UO,zC rfl]
end Go.Ar
namespace Go.Ar
open Go Go.Vc Go.Proofs
open Go.Vc (bU dB cT)
open Go.Bu (eW Vu U8)
variable {size align:Int}{U σ0 v w w':Hp}{F P Q X T:Rg}{L:dH}{H H' H1:Hw}{held:List Pc}{s0 sp:Sp}{t n:Nat}{g:Th}{gb km fm m:Nat}{x y:Gu}{b:B5}
theorem _root_.Go.Vc.bZ.s2 {U:Hp}{b o i j:Nat}{cs:List Value}(hb:bZ U b cs){v:Value}(ho:o+i+j<cs.length){K:aP}(hK:∀h',QR U h' b->bZ h' b (cs.set (o+i+j) v)->K h'):dU (Addr.add (Addr.add ⟨b,o,none⟩ i) j) v U K:=by
 rw[add_lit];exact hb.s1 ho hK
def Mg (P:Rg)(gb km fm:Nat):Rg:=λb=>P b\/b=gb\/b=km\/b=fm
def mF (size align:Int):Bool:=decide (1<=size/\size<=1024/\1<=align/\align<=256)&&eW align
def zA (align:Int):Int:=if 16>align then 16 else align
theorem wC {align:Int}(h:align<=256):16<=zA align/\zA align<=256:=by unfold zA;split<;>omega
structure xw (H:Hw) (x:Gu) (size align:Int) (b:B5) (H1:Hw):Prop where
 me:qD H (zA align+ZJ size+16) (zA align) H1 b.2.2.1 0
 a:b.1=b.2.2.1+zA align
 s:b.2.1=size
 u:Kf H1 b.2.2.1=some b.2.2.2.1
 n:b.2.2.2.2=x.no+1
 ok:mF size align=true
 bi:ie b
def kh (sp:Sp)(b:B5):Sp:=jJ (jJ sp (Zq b) jI) (Yb b) λ_=>0
def Gu.fC (x:Gu)(b:B5):Gu:=⟨dB x.kn b.1 b,x.fr,x.no+1⟩
theorem BF {a:Int}(h1:1<=a)(h2:a<=256)(hp:eW a=true):a%8=0\/a<8:=by
 by_cases h:a<8
 ·exact .inr h
 ·left;obtain⟨a,rfl⟩:=zc (show 0<=a by omega);rw[Vu]at hp;have key:∀a:Nat,a<=256->8<=a->(a &&& (a-1)=0)->a%8=0:=by decide +kernel
  have:=key a O O (by have:=U8 (a:=a) O O;rw[hp]at this;simpa using this);omega
theorem Ou (hi:HI H1 held s0)(hok:mF size align=true){base:Int}(me:qD H (zA align+ZJ size+16) (zA align) H1 base 0):∃u,Kf H1 base=some u/\ie (base+zA align,size,base,u,x.no+1):=by
 unfold mF at hok;rw[zE,zU]at hok;obtain⟨⟨i,k2,k3,k4⟩,kp⟩:=hok;have p:=wC k4;have m:=Z0 (n:=size) O;rcases me with⟨h,_⟩|⟨_,hm,hok,cl,hl,hcl⟩
 ·exact absurd rfl h
 have e:Kf H1 base=some (oP H.tb (zA align+ZJ size+16) (zA align)).1:=by unfold Kf;rw[hl,Cu];rfl
 have j:=(SY (tb:=H.tb) ⟨hok.2.1,hok.2.2⟩).1;obtain⟨r,b,d⟩:=nR.1 e;have a:=hi.oy (KK b);simp only at a;rw[d]at a;have g:zA align%8=0:=by
  unfold zA;split
  ·decide
  ·rcases BF k3 k4 kp with h|h
   ·exact h
   ·omega
 exact⟨_,e,⟨⟨i,k2⟩,⟨a.2.1,a.2.2.1⟩,⟨by simp only;omega,by simp only;omega,by simp only;omega⟩,⟨by simp only;omega,a.2.2.2.1⟩,by simp only;omega⟩⟩
set_option maxRecDepth 16000 in
theorem O7 (p:GP σ0 U L H held s0 P gb km fm x)(gc:Gc σ0)(x0:0<=x.no/\x.no<=100000)(thread size align:Int){R:Int->Int->Hp->Prop}
 (h0:∀w,mF size align=false->bL U w->R 0 1 w)
 (h1:∀e w ts H' held' s0' P',mF size align=true->e≠0->KN H thread 0 (zA align+ZJ size+16) (zA align) 0 H' 0 e->fY H H'->H'.live=H.live->Ext P U w->GP σ0 w {L with ts:=ts} H' held' s0' P' gb km fm x->(∀c,P' c->P c\/U.size<=c)->R 0 e w)
 (h2:∀b w ts H1 held' s0' P',xw H x size align b H1->KN H thread 0 (zA align+ZJ size+16) (zA align) 0 H1 b.2.2.1 0->fY H H1->Ext (Mg P gb km fm) U w->GP σ0 w {L with ts:=ts} {H1 with sp:=kh H1.sp b} held' s0' P' gb km fm (x.fC b)->(∀c,P' c->P c\/U.size<=c)->R b.1 0 w) :
 X2.c (aW gb) thread size align U R:=by
 refine X2.o ?_;unfold X2.v;rw[show(if(16:Int)>align then(16:Int)else align)=zA align from rfl]
 refine nw (cs:=[.pointer (some ⟨gb,0,none⟩)]) λv hz e hn4=>hn4.qd rfl (UY (p.fr e) (cE rfl ?_));refine KH (λr u=>u=v/\r = !decide (1<=size/\size<=1024)) (λr u ⟨hu,hr⟩=>?_) λJ hJ=>cQ (λh=>hJ _ _ ⟨rfl,by rw[zL O];rfl⟩) λh=>hJ _ _ ⟨rfl,?_⟩
 ·rw[hu];refine KH (λr u=>u=v/\r = !decide (1<=size/\size<=1024/\1<=align)) (λr1 u1 ⟨hu1,hr1⟩=>?_) λJ1 hJ1=>?_
  ·rw[hu1];refine KH (λr u=>u=v/\r = !decide (1<=size/\size<=1024/\1<=align/\align<=256)) (λr2 u2 ⟨hu2,hr2⟩=>?_) λJ2 hJ2=>?_
   ·rw[hu2];refine KH (λr u=>u=v/\r = !mF size align) (λr3 u3 ⟨hu3,hr3⟩=>?_) λJ3 hJ3=>?_
    ·rw[hu3];clear hr hr1 hr2 hu hu1 hu2 hu3;by_cases hgk:mF size align=true
     ·refine cE (by rw[hr3,hgk];rfl) ?_;have hk:=hgk;unfold mF at hk;rw[zE,zU]at hk;obtain⟨⟨k1,k2,k3,k4⟩,kp⟩:=hk;have hzz:=wC k4;have hww:=Z0 (n:=size) O;refine nw (cs:=[.int .i64 0,.int .i64 0,.int .i64 0,.int .i64 0,.int .i64 0]) λv6 hz6 e6 b6=>?_;refine b6.s1 aA λv7 o7 b7=>b7.s1 aA λv8 o8 b8=>b8.s1 aA λv9 o9 b9=>b9.s1 aA λv10 fZ b10=>b10.s1 aA λv11 o11 b11=>?_;have bb:bZ v11 v.size (fI (0,size,0,0,0)):=b11;have eo:Ext (· = v.size) v6 v11:=(((o7.ext.trans o8.ext).trans o9.ext).trans fZ.ext).trans o11.ext;have e11:bL v v11:=Ext.fresh e6 eo λi (hi:i=v.size)=>by omega
      have p11:=(p.fr e).fr e11;have V:=e11.bW hn4 id;have zv:U.size<v.size:=by omega
      have zb:=bb.lt;refine⟨λm=>bZ m U.size [.pointer (some ⟨gb,0,none⟩)]/\bZ m gb (sv L.p km fm x)/\bZ m v.size (fI (0,size,0,0,0)),⟨V,p11.b,bb⟩,?_⟩;refine qY (c:=.p) (y:=some ⟨gb,0,none⟩) (λm G=>G.1) rfl (aG (im (c:=.p) (y:=some ⟨L.p,0,none⟩) (λm G=>G.2.1) rfl ?_));refine im (c:=bO) (y:=0) (λm G=>G.2.2) rfl (im (c:=bO) (y:=size) (λm G=>G.2.2) rfl (im (c:=bO) (y:=0) (λm G=>G.2.2) rfl (im (c:=bO) (y:=0) (λm G=>G.2.2) rfl (im (c:=bO) (y:=0) (λm G=>G.2.2) rfl ?_))));refine Ht (0,size,0,0,0) aC aC λv12 A=>⟨⟨A.bW V id,A.bW p11.b id,A.bW bb id⟩,?_⟩;refine ar aC aC (ar aC aC ?_);have p12:=p11.fr A;have e012:=(e.trans e11).trans A;have z1112:=A.1;obtain⟨H',a,er,hw,o,me⟩:=Rp p.hi thread (zA align+ZJ size+16) (zA align);obtain⟨held',s0',hi'⟩:=o.hi;refine OU Iw p12.h p12.cf.2.2 hw λv13 ts F h13=>?_;have B:=p12.step F h13 hi' o.kp;have z12:=e012.1;have z13:=F.1;have nP:∀c,U.size<=c->¬P c:=λc h1 h2=>by have:=(p.pP c h2).2;omega
      have M:=F.bW (A.bW V id) (nP _ (zD _));have bb13:=F.bW (A.bW bb id) (nP _ O);refine⟨⟨M,F.bW p12.b p.rW.2,bb13⟩,?_⟩;generalize hP1:Cut (Grow P v12) v13=P1 at B;have E:∀c,P1 c->P c\/U.size<=c:=λc d=>by
       rw[←hP1]at d;exact d.1.imp id λh=>by omega
      have N:∀c,P1 c->c<v13.size:=λc d=>by rw[←hP1]at d;exact d.2
      have K:∀c,c<v12.size->¬P c->¬P1 c:=λc h1 h2 C=>by
       rw[←hP1]at C;rcases C.1 with h4|h4
       ·exact h2 h4
       ·omega
      have E13:Ext P U v13:=(bL.to e012).trans F;refine cU (λhne=>?_) λheq=>?_
      ·have hne':er≠0:=by simpa using hne
       rcases me with⟨_,ha,hl⟩|⟨h,_⟩
       ·subst ha;exact h1 er v13 ts H' held' s0' P1 hgk hne' hw o hl E13 B E
       ·exact absurd h hne'
      ·have he0:er=0:=by simpa using heq
       subst he0;obtain⟨u,hu,bi⟩:=Ou (x:=x) (size:=size) (align:=align) hi' hgk me;obtain⟨b,g⟩:∃b:B5,b=(a+zA align,size,a,u,x.no+1):=⟨_,rfl⟩;rw[←g]at bi;have hbs:=bi.base;have hbm:=bi.m;have hbz:=bi.z;have hbt:=bi.t;have hb1:b.1=a+zA align:=by rw[g]
       have hb2:b.2.1=size:=by rw[g]
       rw[hb2]at hbt;have W:b.2.2.1=a:=by rw[g]
       have hb4:b.2.2.2.1=u:=by rw[g]
       rw[W]at hbs;have gr:xw H x size align b H':=⟨by rw[W];exact me,by rw[hb1,W],by rw[g],by rw[W,hb4];exact hu,by rw[g],hgk,bi⟩;have hgb13:=B.b.lt;have hvg:v.size≠gb:=λh=>by have:=p.b.lt;omega
       have hsg:U.size≠gb:=λh=>by have:=p.b.lt;omega
       have hvk:v.size≠km:=λh=>by have:=p.m.lt;omega
       have hsk:U.size≠km:=λh=>by have:=p.m.lt;omega
       have hvf:v.size≠fm:=λh=>by have:=p.f.lt;omega
       refine M.qd rfl (aG (B.b.rI rfl (ar O O (aG (B.b.s1 (by simp[sv]) λS D b14=>?_)))));have p14:GP σ0 S {L with ts:=ts} H' held' s0' P1 gb km fm {x with no:=x.no+1}:=B.eZ (D.ext.sub λc d=>.inl d) b14 (D.ext.fR B.m λ(h:km=gb)=>p.n1 h.symm) (D.ext.fR B.f λ(h:fm=gb)=>p.n2 h.symm);have hn14:=D.ext.bW M hsg;have bb14:=D.ext.bW bb13 hvg;refine hn14.qd rfl (aG (p14.b.rI rfl (ar O O ?_)));refine bb14.s1 (by simp[fI]) λv15 o15 b15=>b15.s2 (by simp[fI]) λv16 o16 b16=>b16.s2 (by simp[fI]) λv17 o17 b17=>?_;have e17:Ext (· = v.size) S v17:=(o15.ext.trans o16.ext).trans o17.ext;have hout:∀c,c<S.size->c=v.size->¬P1 c/\c≠gb/\c≠km/\c≠fm/\σ0.size<=c:=λc _ d=>by
        subst d;have:=p.e.1;exact⟨K _ O (nP _ O),hvg,hvk,hvf,O⟩
       have p17:=p14.out e17 hout;have hn17:=e17.bW hn14 (show ¬U.size=v.size by omega);refine hn17.qd rfl (aG (p17.b.rP rfl (Jy p17.h a λv18 Q=>?_)));rw[hu];refine(Q.bW b17 id).s2 (by simp[fI]) λv19 o19 b19=>?_;have j:bZ v19 v.size (fI b):=by rw[g];exact b19
       have p18:=p17.fr Q;have z17:=o17.1;have z16:=o16.1;have z15:=o15.1;have z14:=D.1;have z18:=Q.1;have z19:=o19.1;have p19:=p18.out o19.ext λc hc1 (d:c=v.size)=>by
        subst d;have:=p.e.1;exact⟨K _ O (nP _ O),hvg,hvk,hvf,O⟩
       have hn19:=o19.ext.bW (Q.bW hn17 id) (show ¬U.size=v.size by omega);have E19:Ext (Mg P gb km fm) U v19:=by
        refine Ext.dS (((((E13.sub λc d=>.inl d).trans (D.ext.sub λc d=>.inr (.inl d))))):Ext (Mg P gb km fm) U S) (((e17.trans (bL.to Q)).trans o19.ext):Ext (· = v.size) S v19) λc (d:c=v.size)=>.inr O
       refine j.rI rfl (j.rI rfl (j.rI rfl (j.rI rfl (j.rI rfl (Ig b λv20 hz20 X b20=>?_)))));have p20:=p19.fr X;have hn20:=X.bW hn19 id;have bb20:=X.bW j id;have z20:=X.1;have E20:Ext (Mg P gb km fm) U v20:=E19.fT X;refine⟨rfl,by kernel_rfl,Zq b,_,λk s=>Ext (Mg P gb km fm) U s/\v20.size<=s.size/\bZ s U.size [.pointer (some ⟨gb,0,none⟩)]/\bZ s v.size (fI b)/\bZ s v19.size (fI b)/\∃(s0':Sp) (P':Rg),GP σ0 s {L with ts:=ts} {H' with sp:=jJ H'.sp ((Zq b).take k) jI} held' s0' P' gb km fm {x with no:=x.no+1}/\∀c,P' c->P1 c\/v20.size+2<=c,I0 bi,?_,λk s h=>h.2.2.2.2.1,?_,?_,?_⟩
       ·rintro k s s' ⟨i1,i2,i3,Z,i5,s1',P',i6,Y⟩ es;have zs:=es.1;have nn:∀c,c<v20.size->¬(c=v20.size\/c=v20.size+1):=λc h=>by omega
        refine⟨Ext.dS i1 es λc d=>.inr O,O,es.bW i3 (nn _ O),es.bW Z (nn _ O),es.bW i5 (nn _ O),s1',P',i6.out es λc _ d=>?_,Y⟩;have:=p.e.1;have g1:=p.b.lt;have g2:=p.m.lt;have g3:=p.f.lt;refine⟨λhx=>?_,O,O,O,O⟩;rcases Y c hx with h|h
        ·have:=N c h;omega
        ·omega
       ·exact⟨E20,zD _,hn20,bb20,b20,s0',P1,p20,λc d=>.inl d⟩
       ·rintro k (z:Int) hk s ⟨i1,i2,i3,Z,i5,s1',P',i6,Y⟩ hsz;have zi:=HF bi (zG hk);have hzk:0<=z/\z<=1000000:=by
         have z1:=zi.1;have z2:=zi.2.2.1;have h0:=bi.base.1;omega
        have htk:(Zq b).take (k+1)=(Zq b).take k++[z]:=by rw[ko,hk];rfl
        have n7:∀c,c<v20.size+2->(¬P1 c)->¬P' c:=λc h1 h2 C=>(Y c C).elim h2 λh=>by omega
        have q1:¬P1 U.size:=K _ O (nP _ (zD _));have q2:¬P1 v.size:=K _ O (nP _ O);have q3:∀c,v13.size<=c->¬P1 c:=λc h1 h2=>by have:=N c h2;omega
        refine⟨λm=>bZ m U.size [.pointer (some ⟨gb,0,none⟩)]/\bZ m gb (sv L.p km fm {x with no:=x.no+1}),⟨i3,i6.b⟩,qY (c:=.p) (y:=some ⟨gb,0,none⟩) (λm h=>h.1) rfl (aG (im (c:=.p) (y:=some ⟨L.p,0,none⟩) (λm h=>h.2) rfl ?_))⟩;refine F9 z hzk.1 hzk.2 ⟨⟨i3,i6.b⟩,?_⟩;refine i6.write gc z (jI z) O λs2 s2' P2 e2 p2 hP2=>?_;have zs2:=e2.1;have i3':=e2.bW i3 (n7 _ O q1);refine⟨⟨i3',p2.b⟩,⟨Ext.dS i1 e2 λc d=>?_,O,i3',e2.bW Z (n7 _ O q2),e2.bW i5 (n7 _ O (q3 _ O)),s2',P2,?_,λc d=>?_⟩,e2.2 _ O (n7 _ O (q3 _ O)),e2.2 _ O (n7 _ O (q3 _ O))⟩
        ·rcases Y c d with h|h
         ·exact(E c h).imp .inl id
         ·exact .inr O
        ·rw[htk,Bw];exact p2
        ·rcases hP2 c d with h|h
         ·exact Y c h
         ·exact .inr O
       ·rintro s ⟨i1,i2,i3,Z,i5,s1',P',i6,Y⟩ hD;rw[l0]at i6;have n7:∀c,c<v20.size+2->(¬P1 c)->¬P' c:=λc h1 h2 C=>(Y c C).elim h2 λh=>by omega
        have q1:¬P1 U.size:=K _ O (nP _ (zD _));have q2:¬P1 v.size:=K _ O (nP _ O);have q3:∀c,v13.size<=c->¬P1 c:=λc h1 h2=>by have:=N c h2;omega
        refine i3.qd rfl (Z.rI rfl (Z.rI rfl (Z.rI rfl (Z.rI rfl (Z.rI rfl (Im i6 gc bi 0 λs2 s2' P2 e2 p2 hP2=>?_))))));have zs2:=e2.1;have hlt:=(jP.1 hD).1;have i3':=e2.bW i3 (n7 _ O q1);have i4':=e2.bW Z (n7 _ O q2);have hS:∀m,(bZ m U.size [.pointer (some ⟨gb,0,none⟩)]/\bZ m gb (sv L.p km fm {x with no:=x.no+1})/\bZ m v.size (fI b))->bZ m v.size (fI b):=λm h=>h.2.2;refine⟨λm=>bZ m U.size [.pointer (some ⟨gb,0,none⟩)]/\bZ m gb (sv L.p km fm {x with no:=x.no+1})/\bZ m v.size (fI b),⟨i3',p2.b,i4'⟩,qY (c:=.p) (y:=some ⟨gb,0,none⟩) (λm h=>h.1) rfl (aG (im (c:=.m) (y:=some km) (λm h=>h.2.1) rfl ?_))⟩;refine pn (c:=bO) (y:=b.1) hS rfl (im (c:=bO) (y:=b.1) hS rfl (im (c:=bO) (y:=b.2.1) hS rfl (im (c:=bO) (y:=b.2.2.1) hS rfl (im (c:=bO) (y:=b.2.2.2.1) hS rfl (im (c:=bO) (y:=b.2.2.2.2) hS rfl ⟨km,x.kn,rfl,p2.m,λs3 o3 m3=>?_⟩)))));have p3:GP σ0 s3 {L with ts:=ts} {H' with sp:=kh H'.sp b} held' s2' P2 gb km fm (x.fC b):=p2.eZ (y:=x.fC b) (o3.ext.sub λc d=>.inr (.inl d)) (o3.ext.bW p2.b p.n1) m3 (o3.ext.fR p2.f λ(h:fm=km)=>p.n3 h.symm);have zs3:=o3.1;have hkm:=p.m.lt;have hfm:=p.f.lt;have hgb:=p.b.lt;have hD3:s3[v20.size]?=some (.deferred (some [])):=(o3.2 _ O).trans ((e2.2 _ hlt (n7 _ O (q3 _ O))).trans hD);refine(o3.ext.bW i4' hvk).gC rfl (FT hD3 λs4 e4=>?_);have hP2':∀c,P2 c->P c\/U.size<=c:=λc d=>by
         rcases hP2 c d with h|h
         ·rcases Y c h with h|h
          ·exact E c h
          ·exact .inr O
         ·exact .inr O
        refine h2 b s4 ts H' held' s2' P2 gr (by rw[W];exact hw) o ?_ (p3.out e4 λc _ (d:c=v20.size)=>?_) hP2'
        ·have E1:Ext (Mg P gb km fm) U s2:=Ext.dS i1 e2 λc d=>by
          rcases Y c d with h|h
          ·exact(E c h).imp .inl id
          ·exact .inr O
         have E2:Ext (Mg P gb km fm) U s3:=E1.trans (o3.ext.sub λc d=>.inr (.inr (.inl d)));exact Ext.dS E2 e4 λc (d:c=v20.size)=>.inr O
        ·subst d;have:=p.e.1;refine⟨λhx=>?_,O,O,O,O⟩;rcases hP2 _ hx with h|h
         ·exact n7 _ O (q3 _ O) h
         ·omega
     ·exact cD (by rw[hr3];simp[hgk]) (h0 v (by simpa using hgk) e)
    ·by_cases g:1<=size/\size<=1024/\1<=align/\align<=256
     ·refine cE (by rw[hr2,zJ g];rfl) (ar O O (hJ3 _ _ ⟨rfl,?_⟩));rw[Tj g.2.2.1 g.2.2.2];unfold mF;rw[zJ g];rfl
     ·refine cD (by rw[hr2,zL g];rfl) (hJ3 _ _ ⟨rfl,?_⟩);unfold mF;rw[zL g];rfl
   ·by_cases g:1<=size/\size<=1024/\1<=align
    ·refine cE (by rw[hr1,zJ g];rfl) (hJ2 _ _ ⟨rfl,?_⟩);by_cases C:align>256
     ·rw[zJ C,zL O];rfl
     ·rw[zL C,zJ O];rfl
    ·exact cD (by rw[hr1,zL g];rfl) (hJ2 _ _ ⟨rfl,by rw[zL O];rfl⟩)
  ·by_cases g:1<=size/\size<=1024
   ·refine cE (by rw[hr,zJ g];rfl) (hJ1 _ _ ⟨rfl,?_⟩);by_cases C:align<1
    ·rw[zJ C,zL O];rfl
    ·rw[zL C,zJ O];rfl
   ·exact cD (by rw[hr,zL g];rfl) (hJ1 _ _ ⟨rfl,by rw[zL O];rfl⟩)
 ·by_cases C:size>1024
  ·rw[zJ C,zL O];rfl
  ·rw[zL C,zJ O];rfl
end Go.Ar
namespace Go.Ar
open Go Go.Vc Go.Proofs Go.RowKit Go.Sort Go.Shelf Go.Lib
variable {U:Hp}{F Q:Rg}{s:Sl}{xs:List Int}
end Go.Ar
namespace Go.Ar
open Go Go.Vc Go.Proofs
open Go.Vc (bU dB cT)
variable {size align:Int}{U σ0 v w w':Hp}{F P Q X T:Rg}{L:dH}{H H' H1:Hw}{held:List Pc}{s0 sp:Sp}{t n:Nat}{g:Th}{gb km fm m:Nat}{x y:Gu}{b:B5}
def uW:Int:=-1234567
def mf (H:Hw)(x:Gu)(thread addr:Int)(whole:Bool):Int:=
 if QU H thread≠0 then QU H thread else match bU x.kn addr with
 | none=>if(bU x.fr addr).getD false then 9 else 8
 | some b=>if Ut H b then 5 else if whole&&decide (0<(QC H.sp b).length)then 10 else 0
def Gu.gone (x:Gu)(addr:Int):Gu:=⟨cT x.kn addr,dB x.fr addr true,x.no⟩
def eX (H:Hw)(b:B5):Hw:={H with sp:=jJ H.sp (Yb b) λ_=>uW}
set_option maxRecDepth 16000 in
theorem Fe (p:GP σ0 U L H held s0 P gb km fm x)(gc:Gc σ0)(xi:∀e∈x.kn,e.1=e.2.1/\ie e.2)(thread addr:Int)(whole:Bool){R:aN}
 (h0:∀w,mf H x thread addr whole≠0->bL U w->R (mf H x thread addr whole) w)
 (h1:∀b w ts H1 held' s0' P' e,bU x.kn addr=some b->mf H x thread addr whole=0->KN (eX H b) thread 1 0 0 b.2.2.1 H1 0 e->fY (eX H b) H1->nD (eX H b) thread b.2.2.1 H1 e->Ext (Mg P gb km fm) U w->GP σ0 w {L with ts:=ts} H1 held' s0' P' gb km fm (x.gone addr)->(∀c,P' c->P c\/U.size<=c)->R 0 w) :
 XQ.c (aW gb) thread addr whole U R:=by
 refine XQ.o ?_;unfold XQ.v;refine UY p (cE rfl (NM p thread λC e1=>?_));have p1:=p.fr e1;refine cU (λhne=>?_) λZ=>?_
 ·have hn:QU H thread≠0:=by simpa using hne
  have he:mf H x thread addr whole=QU H thread:=by unfold mf;rw[zC hn]
  have:=h0 C (by rw[he];exact hn) e1;rw[he]at this;exact this
 have hrd:QU H thread=0:=by simpa using Z
 have a:mf H x thread addr whole=match bU x.kn addr with
  | none=>if(bU x.fr addr).getD false then 9 else 8
  | some b=>if Ut H b then 5 else if whole&&decide (0<(QC H.sp b).length)then 10 else 0:=by
  unfold mf;rw[zB (by rw[hrd];decide)]
 refine aG (p1.b.rM rfl ⟨x.kn,p1.m,?_⟩);refine nw (cs:=[.int .i64 0,.int .i64 0,.int .i64 0,.int .i64 0,.int .i64 0]) λv2 hz2 e2 b2=>b2.s1 aA λv3 o3 b3=>b3.s1 aA λv4 o4 b4=>b4.s1 aA λv5 o5 b5=>b5.s1 aA λv6 o6 b6=>b6.s1 aA λv7 o7 b7=>?_;have eo:Ext (· = C.size) v2 v7:=(((o3.ext.trans o4.ext).trans o5.ext).trans o6.ext).trans o7.ext;have e17:bL C v7:=Ext.fresh e2 eo λi (hi:i=C.size)=>by omega
 have E:=e1.trans e17;have p7:=p.fr E;have d:bZ v7 C.size (fI ((bU x.kn addr).getD (0,0,0,0,0))):=b7;cases hk:bU x.kn addr with
 | none=>
  rw[hk]at a;simp only at a;refine KH (λr u=>u=v7/\r=(bU x.fr addr).getD false) (λr u ⟨hu,K⟩=>?_) λJ M=>cD rfl (aG (p7.b.rM rfl ⟨x.fr,p7.f,M _ _ ⟨rfl,rfl⟩⟩));rw[hu];refine cU (λh=>?_) λh=>cD rfl ?_
  ·rw[←K,h]at a;have:=h0 v7 (by rw[a];decide) E;rw[a]at this;exact this
  ·rw[←K,h]at a;have:=h0 v7 (by rw[a];decide) E;rw[a]at this;exact this
 | some b=>
  rw[hk]at a d;simp only at a;have d:bZ v7 C.size (fI b):=d;have F:ie b:=(xi _ (KK hk)).2;refine KH (λr u=>u=v7/\r=false) (λr u ⟨hu,K⟩=>?_) λJ M=>cE rfl (M _ _ ⟨rfl,rfl⟩);rw[hu];refine cE K (cE rfl (d.rI rfl (d.rI rfl (d.rI rfl (d.rI rfl (d.rI rfl (GW p7 b λv9 e9=>?_)))))));have D:=E.trans e9;have p9:=p.fr D;have j:=e9.bW d id;refine cU (λhl=>?_) λhl=>?_
  ·rw[zC hl]at a;have:=h0 v9 (by rw[a];decide) D;rw[a]at this;exact this
  rw[zB (by rw[hl];decide)]at a;refine KH (λr u=>bL U u/\bZ u C.size (fI b)/\r=(whole&&decide (0<(QC H.sp b).length))) (λr u ⟨G,B,K⟩=>?_) λJ M=>cU (λN=>?_) λN=>M _ _ ⟨D,j,by rw[N];rfl⟩
  ·refine cU (λh=>?_) λh=>?_
   ·rw[←K,zC h]at a;have:=h0 u (by rw[a];decide) G;rw[a]at this;exact this
   ·rw[←K,zB (by rw[h];decide)]at a;have pu:=p.fr G;have zu:=G.1;have z1:=e1.1;refine B.rI rfl (B.rI rfl (B.rI rfl (B.rI rfl (B.rI rfl (Im pu gc F (-1234567) λu1 S P1 ef X Y=>?_)))));have nP:¬P C.size:=λhx=>by have:=(p.pP _ hx).2;omega
    have hb1:=ef.bW B nP;have zf:=ef.1;refine aG (X.b.rM rfl ⟨x.kn,X.m,λu2 o2 _ m2=>?_⟩);have o2:=o2 km rfl;have W:GP σ0 u2 L (eX H b) held S P1 gb km fm ⟨cT x.kn addr,x.fr,x.no⟩:=X.eZ (y:=⟨cT x.kn addr,x.fr,x.no⟩) (o2.ext.sub λc g=>.inr (.inl g)) (o2.ext.bW X.b p.n1) m2 (o2.ext.fR X.f λ(h:fm=km)=>p.n3 h.symm);refine aG (W.b.rM rfl ⟨fm,x.fr,rfl,W.f,λu3 A m3=>?_⟩);have V:GP σ0 u3 L (eX H b) held S P1 gb km fm (x.gone addr):=W.eZ (y:=x.gone addr) (A.ext.sub λc g=>.inr (.inr g)) (A.ext.bW W.b p.n2) (A.ext.fR W.m p.n3) m3;have hkm:=p.m.lt;have hfm:=p.f.lt;have hb3:=A.ext.bW (o2.ext.bW hb1 (show ¬C.size=km by omega)) (show ¬C.size=fm by omega);obtain⟨H',er,N,o,fe⟩:=Nh V.hi thread b.2.2.1 (by have:=F.base;have:=F.m;have:=F.t;have:=F.z;have:=F.s;have:=Z0 (n:=b.2.1) O;unfold iH;omega);obtain⟨held',s0',hi'⟩:=o.hi;refine aG (V.b.rP rfl (hb3.gC rfl (NY Iw V.h V.cf.2.2 N λu4 ts e4 h4=>?_)));have p5:=V.step e4 h4 hi' o.kp;have z2:=o2.1;have z3:=A.1;have z4:=e4.1;refine h1 b u4 ts H' held' s0' _ er hk a N o fe ?_ p5 λc g=>?_
    ·have E1:Ext (Mg P gb km fm) U u1:=(bL.to G).trans (ef.sub λc g=>.inl g);have E3:Ext (Mg P gb km fm) U u3:=(E1.trans (o2.ext.sub λc g=>.inr (.inr (.inl g)))).trans (A.ext.sub λc g=>.inr (.inr (.inr g)));exact Ext.dS E3 e4 λc g=>(Y c g).imp .inl λh=>by omega
    ·rcases g.1 with g|g
     ·exact(Y c g).imp id λh=>by omega
     ·exact .inr O
  ·refine j.rI rfl (j.rI rfl (j.rI rfl (j.rI rfl (j.rI rfl (DT p9 F λs u Q G hs hQ=>M _ _ ⟨D.trans G,G.bW j id,?_⟩)))));have:s.len=(QC H.sp b).length:=by have:=hs.1;simp[WD]at this;omega
   rw[N,this,rk,kT,decide_eq_true_iff,decide_eq_true_iff];omega
def ly (H:Hw)(x:Gu)(addr:Int):Int:=match bU x.kn addr with
 | none=>8
 | some b=>if Ut H b then 5 else 0
def uo (H:Hw)(x:Gu)(addr:Int):List Int:=match bU x.kn addr with
 | none=>[]
 | some b=>if Ut H b then[]else QC H.sp b
set_option maxRecDepth 16000 in
theorem Jz (p:GP σ0 U L H held s0 P gb km fm x)(xi:∀e∈x.kn,e.1=e.2.1/\ie e.2)(addr:Int){R:Sl->Int->Hp->Prop}
 (hR:∀s w Q,bL U w->bS s 1 (WD (uo H x addr)) w Q->(∀c,Q c->U.size<=c/\c<w.size)->R s (ly H x addr) w):XU.c (aW gb) addr U R:=by
 refine XU.o ?_;unfold XU.v;refine UY p (cE rfl (aG (p.b.rM rfl ⟨x.kn,p.m,?_⟩)));refine nw (cs:=[.int .i64 0,.int .i64 0,.int .i64 0,.int .i64 0,.int .i64 0]) λK J e2 G=>G.s1 aA λv3 o3 S=>S.s1 aA λZ o4 b4=>b4.s1 aA λY o5 E=>E.s1 aA λv6 o6 C=>C.s1 aA λv7 o7 D=>?_;have V:Ext (· = U.size) K v7:=(((o3.ext.trans o4.ext).trans o5.ext).trans o6.ext).trans o7.ext;have j:bL U v7:=Ext.fresh e2 V λi (hi:i=U.size)=>by omega
 have B:=p.fr j;have a:bZ v7 U.size (fI ((bU x.kn addr).getD (0,0,0,0,0))):=D;have nil:∀w,bS ⟨none,0,0⟩ 1 (WD []) w (λ_=>False):=λw=>⟨rfl,.inl ⟨rfl,rfl⟩⟩;unfold ly uo at hR;cases hk:bU x.kn addr with
 | none=>
  rw[hk]at hR;exact cD rfl (hR _ v7 _ j (nil _) λc h=>h.elim)
 | some b=>
  rw[hk]at a hR;simp only at hR;have a:bZ v7 U.size (fI b):=a;have N:ie b:=(xi _ (KK hk)).2;refine cE rfl (a.rI rfl (a.rI rfl (a.rI rfl (a.rI rfl (a.rI rfl (GW B b λM y=>?_))))));have g:=j.trans y;have X:=p.fr g;have d:=y.bW a id;refine cU (λr=>?_) λr=>?_
  ·rw[r]at hR;exact hR _ M _ g (nil _) λc h=>h.elim
  ·rw[r]at hR;refine d.rI rfl (d.rI rfl (d.rI rfl (d.rI rfl (d.rI rfl (DT X N λs u Q W F A=>?_)))));have:=g.1;exact hR s u Q (g.trans W) F λc z=>by have:=A c z;omega
def Ip (H:Hw)(e:Int×B5):List Int:=if Ut H e.2 then[]else QC H.sp e.2
def Fx (H:Hw)(x:Gu):List Int:=x.kn.flatMap (Ip H)
end Go.Ar
namespace Go.Proofs
open Go.Shelf
end Go.Proofs
namespace Go.Ar
open Go Go.Vc Go.Proofs Go.RowKit Go.Maps Go.Sort Go.Shelf
open Go.Vc (bU dB cT)
open Go.Bu (kS HJ V1 Hz Vx xY)
variable {U w w':Hp}{F P Q X S:Rg}{L:dH}{H H':Hw}{held:List Pc}{s0 sp:Sp}{t n:Nat}{g:Th}{σ0:Hp}
def lu (b:Bk):List Value:=[.int .i64 b.1,.int .i64 b.2.1,.int .i64 b.2.2.1,.int .i64 b.2.2.2]
def jl (bs:List Bk):List Value:=bs.flatMap lu
theorem Cb (bs:List Bk):(jl bs).length=bs.length*4:=by
 unfold jl
 induction bs with
 | nil=>rfl
 | cons b bs ih=>rw[qm,zM,ih];simp[lu];omega
theorem CA:∀{bs:List Bk} {i:Nat} {b:Bk},bs[i]?=some b->∀{j:Nat} {v:Value},(lu b)[j]?=some v->(jl bs)[4*i+j]?=some v
 | [],i,b,h,_,_,_=>by simp at h
 | a::bs,0,b,h,j,v,hv=>by
  simp only[yY,Option.some.injEq]at h;subst h;have hj:=(cZ.1 hv).1;show(lu a++jl bs)[4*0+j]?=_;rw[show 4*0+j=j by omega,zd hj];exact hv
 | a::bs,i+1,b,h,j,v,hv=>by
  have d:=CA (bs:=bs) (i:=i) (b:=b) (by simpa using h) hv;show(lu a++jl bs)[4*(i+1)+j]?=_;rw[zm (by simp[lu];omega)];have:4*(i+1)+j-(lu a).length=4*i+j:=by simp[lu];omega
  rw[this];exact d
theorem cV.ug {B:Nat}{s:Sl}{xs:List Value}(h:kS B U s xs):cV s 1 xs U (λb=>B<=b):=by
 refine⟨by have:=h.1;omega,?_⟩;rcases h.2 with⟨h0,_⟩|⟨b,cs,hb,ha,hk,hc⟩
 ·exact .inl h0
 ·exact .inr ⟨b,0,cs,hb,ha,hk.q,λj a=>by rw[zH];exact hc j a⟩
theorem CQ {s:Sl}{bs:List Bk}(hs:cV s 4 (jl bs) U F){i:Nat}{b:Bk}(hb:bs[i]?=some b){K:Addr->Prop}(hK:∀bb o,(∀(j:Nat) v,(lu b)[j]?=some v->cell U ⟨bb,o+j,none⟩=some v)->K ⟨bb,o,none⟩):Ix s.a s.len (i:Int) 4 K:=by
 have g:=(cZ.1 hb).1;have w:s.len=bs.length:=by have:=hs.1;rw[Cb]at this;omega
 obtain⟨bb,o,e,x⟩:=hs.cell (CA hb (j:=0) rfl);rw[e];refine ix O O ?_;rw[add_lit,dD];refine hK bb _ λj v p=>?_;obtain⟨u,r,d,m⟩:=hs.cell (CA hb p);rw[e]at d;cases d;rw[←m];congr 2;omega
end Go.Ar
namespace Go.Proofs
open Go.Shelf
def Tryz.ib:Go.Shelf.Ren:=⟨fun|7=>67|10=>113|n=>n,fun|23=>72|26=>3|3=>106|28=>116|0=>0|27=>115|33=>118|4=>4|n=>n,fun|n=>n⟩
theorem Tryz.kO:Go.Proofs.SlLaysZI.n7 Tryz.prog Tryz.ib:={
 mixed:=by kernel_rfl
 f7:=⟨Tryz.f67.name,by decide,Tryz.func67.trans (congrArg some (by kernel_rfl))⟩
 f10:=⟨Tryz.f113.name,by decide,Tryz.func113.trans (congrArg some (by kernel_rfl))⟩
 t0:=Tryz.underlying0
 a0:=Tryz.isAgg0
 z0:=Tryz.sizeOf0
 v0:=Tryz.zeroValue0
 t4:=Tryz.underlying4
 a4:=Tryz.isAgg4
 z4:=Tryz.sizeOf4
 v4:=Tryz.zeroValue4
 t23:=Tryz.underlying72
 a23:=Tryz.isAgg72
 z23:=Tryz.sizeOf72
 v23:=Tryz.zeroValue72
 t26:=Tryz.underlying3
 a26:=Tryz.isAgg3
 z26:=Tryz.sizeOf3
 v26:=Tryz.zeroValue3
 t27:=Tryz.underlying115
 a27:=Tryz.isAgg115
 z27:=Tryz.sizeOf115
 v27:=Tryz.zeroValue115
 t28:=Tryz.underlying116
 a28:=Tryz.isAgg116
 z28:=Tryz.sizeOf116
 v28:=Tryz.zeroValue116
 t33:=Tryz.underlying118
 a33:=Tryz.isAgg118
 z33:=Tryz.sizeOf118
 v33:=Tryz.zeroValue118}
end Go.Proofs
namespace Go.Proofs
open Go.Vc
set_option maxRecDepth 100000
def XG.h:Hn:=.q .o1 (.q (.q .o5 .aK) (.q (.q .o1 (.k (.loop [(5,.I)] (.q (.q .o4 (.c .l .l)) (.q (.k (.q (.oq 9) .aK)) .o3))))) .aM))
def XG.v (a b:Sl)(c:Hp)(d:aO):Prop:=If (((a.len:Nat):Int) != ((b.len:Nat):Int)) (d false c) (Ya [bO] (λe=>e 0 c) λf (g:Int) h=>If (g<((a.len:Nat):Int)) (Ix a.a a.len g 1 λi=>bN i h λj=>Ix b.a b.len g 1 λk=>bN k h λl=>If (j != l) (d false h) (bM (g+1) λm=>f m h)) (d true h))
theorem XG.o {a b c d}(e:XG.v a b c d):XG.c a b c d:=Wa Tryz.func19 (x:=XG.h) (R0 e)
end Go.Proofs
namespace Go.Ar
open Go Go.Vc Go.Proofs Go.RowKit Go.Maps Go.Sort Go.Shelf
open Go.Vc (bU dB cT)
open Go.Bu (kS HJ V1 Hz Vx xY)
variable {size align:Int}{U σ0 v w w':Hp}{F P Q X T:Rg}{L:dH}{H H' H1:Hw}{held:List Pc}{s0 sp:Sp}{t n:Nat}{g:Th}{gb km fm m:Nat}{x y:Gu}{b:B5}
theorem AZ {k:IntKind}{c:CK}{l:List (Int×c.T)}{r:Nat}{a a':CK}{x0:a.T}{y0:a'.T}{A:a.T->a'.T->Hp->Prop}{body:Int->c.T->a.T->a'.T->Hp->(a.T->a'.T->Hp->Prop)->Prop}(hm:dJ U r k c l)(I:List (Int×c.T)->a.T->a'.T->Hp->Prop)
 (h0:∀v,v.size=U.size+1->bL U v->I l x0 y0 v)
 (hend:∀z y v,I [] z y v->A z y v)
 (hstep:∀todo n x z y v v' (J:a.T->a'.T->Hp->Prop),I todo z y v->(n,x)∈todo->QR v v' U.size->U.size<v.size->(∀z' y' w,w[U.size]?=v'[U.size]?->w[r]?=v'[r]?->I (todo.filter λy=>!(y.1==n)) z' y' w->J z' y' w)->body n x z y v' J) :
 oW k c (some r) U λit v3=>Ya [a,a'] (λI=>I x0 y0 v3) λJ1 z y v4=>pG k c it v4 (A z y v4) λ_ _ v5=>oK k c it v5 λkey1 val1=>body key1 val1 z y v5 J1:=by
 refine⟨l,hm,λv N P K=>?_⟩;have G:bL U v:=⟨O,λb m _=>P b m⟩;refine Us (a:=a) (bb:=a') (λz y w=>∃todo e,It w U.size k c (some r) l todo e/\I todo z y w/\U.size<w.size) (λ_ _ w=>xd w U.size r) ⟨l,none,K,h0 v N G,O⟩ ?_;rintro z y w ⟨todo,e,g,E,B⟩;refine⟨rfl,some r,l,todo,e,g,λQ=>?_,λn x D F M i=>?_⟩
 ·subst Q;exact hend z y w E
 ·refine⟨rfl,some r,l,_,n,x,i,hstep todo n x z y w F _ E D M B λz' y' u j p s=>?_⟩;have d:=i.bT j p;refine⟨⟨_,_,d,s,?_⟩,?_⟩
  ·obtain⟨R,H,C,L,_⟩:=d;exact(jP.1 L).1
  ·rw[d.num,g.num];exact B6.2 ⟨(n,x),D,by simp⟩
def mh (ofV:B5->Int)(addr:Int)(b:B5):Prop:=b.1<=addr/\addr<b.1+ofV b
instance (ofV:B5->Int) (addr:Int) (b:B5):Decidable (mh ofV addr b):=by unfold mh;infer_instance
set_option maxRecDepth 16000 in
theorem υ (p:GP σ0 U L H held s0 P gb km fm x)(xi:∀e∈x.kn,e.1=e.2.1/\ie e.2)(addr:Int){ofv:Fv}{ofV:B5->Int}(hov:∀b,ie b->0<=ofV b/\ofV b<=100000)
 (hof:∀(b:B5) (u:Hp) (K:aN),ie b->(∀u',bL u u'->K (ofV b) u')->VH Tryz.prog ofv [.agg #[.int .i64 b.1,.int .i64 b.2.1,.int .i64 b.2.2.1,.int .i64 b.2.2.2.1,.int .i64 b.2.2.2.2]] [.one bO] u K)
 {R:Int->Int->Int->Int->Int->Bool->Hp->Prop}
 (h0:∀(b:B5) w,bL U w->(∀e∈x.kn,¬mh ofV addr e.2)->R b.1 b.2.1 b.2.2.1 b.2.2.2.1 b.2.2.2.2 false w)
 (h1:∀e w,bL U w->e∈x.kn->mh ofV addr e.2->R e.2.1 e.2.2.1 e.2.2.2.1 e.2.2.2.2.1 e.2.2.2.2.2 true w) :
 ZC.c (aW gb) addr ofv U R:=by
 refine ZC.o ?_;unfold ZC.v;refine nw (cs:=fI (0,0,0,0,0)) λv hz e b6=>nw (cs:=fI (0,0,0,0,0)) λv1 hz1 e1 b8=>?_;have e01:=e.trans e1;have p1:=p.fr e01;refine aG (p1.b.rM rfl ?_);refine AZ (a:=.b) (a':=.b) p1.m (λj (d E:Bool) u=>bL U u/\v1.size<u.size/\bZ u U.size (fI (0,0,0,0,0))/\(∀e∈j,e∈x.kn)/\∃iO:B5,bZ u v.size (fI iO)/\(d=false->∀e∈x.kn,e∈j\/¬mh ofV addr e.2)/\(d=true->∃e∈x.kn,e.2=iO/\mh ofV addr e.2))
  (λu hu Z=>⟨e01.trans Z,O,Z.bW (e1.bW b6 id) id,λe D=>D,(0,0,0,0,0),Z.bW b8 id,λ_ e D=>.inl D,λh=>by cases h⟩) ?_ ?_
 ·rintro(d:Bool) (E:Bool) u ⟨Z,hlt,hb6,_,iO,C,hf0,hf1⟩;refine C.rI rfl (C.rI rfl (C.rI rfl (C.rI rfl (C.rI rfl ?_))));refine hb6.s1 (by simp[fI]) λv3 o3 b3=>b3.s1 (by simp[fI]) λv4 o4 b4=>b4.s1 (by simp[fI]) λv5 o5 b5=>b5.s1 (by simp[fI]) λv6 o6 b6=>b6.s1 (by simp[fI]) λv7 o7 b7=>?_;have eo:Ext (· = U.size) u v7:=(((o3.ext.trans o4.ext).trans o5.ext).trans o6.ext).trans o7.ext;have e7:bL U v7:=Ext.fresh Z eo λi (hi:i=U.size)=>by omega
  have A:bZ v7 U.size (fI iO):=b7;refine A.rI rfl (A.rI rfl (A.rI rfl (A.rI rfl (A.rI rfl ?_))));cases d with
  | false=>exact h0 iO v7 e7 λe D=>(hf0 rfl e D).resolve_left aA
  | true=>
   obtain⟨e,D,rfl,M⟩:=hf1 rfl;exact h1 e v7 e7 D M
 ·rintro j k (b:B5) (d:Bool) (E:Bool) u u' J ⟨Z,hlt,hb6,F,iO,C,hf0,hf1⟩ N o1 hs1 hJ;have bi:ie b:=(xi _ (F _ N)).2;have ov:=hov b bi;have zu:=Z.1;have hz':=o1.1;have hbm:=bi.m;have hbz:=bi.z;have hbb:=bi.base;have hbt:=bi.t;have hbs:=bi.s;have hww:=Z0 (n:=b.2.1) O;have ab:bL U u':=Ext.fresh Z o1.ext λc (hc:c=v1.size)=>by omega
  have X:=o1.ext.bW hb6 (show ¬U.size=v1.size by omega);have Y:=o1.ext.bW C (show ¬v.size=v1.size by omega);have hkm:=p.m.lt;refine nw (cs:=fI (0,0,0,0,0)) λv2 hz2 e2 b2=>b2.s1 (by simp[fI]) λv3 o3 b3=>b3.s1 (by simp[fI]) λv4 o4 b4=>b4.s1 (by simp[fI]) λv5 o5 b5=>b5.s1 (by simp[fI]) λv6 o6 b6=>b6.s1 (by simp[fI]) λv7 o7 b7=>?_;have eo:Ext (· = u'.size) v2 v7:=(((o3.ext.trans o4.ext).trans o5.ext).trans o6.ext).trans o7.ext;have e7:bL u' v7:=Ext.fresh e2 eo λi (hi:i=u'.size)=>by omega
  have A:bZ v7 u'.size (fI b):=b7;have V:∀{w:Hp},bL u' w->w[v1.size]?=u'[v1.size]?/\w[km]?=u'[km]? := λe=>⟨e.2 _ O id,e.2 _ O id⟩;have Q:∀e∈j.filter (λy=>!(y.1==k)),e∈x.kn:=λe D=>F e (zI.1 D).1;have hkb:∀e∈x.kn,e∈j->e∈j.filter (λy=>!(y.1==k))\/e=(k,b):=λe D ht=>by
   by_cases hk:e.1=k
   ·right;have h1:=QG p.m.nodup (show(e.1,e.2)∈x.kn from D);have h2:=QG p.m.nodup (F _ N);rw[hk,h2]at h1;exact Prod.ext hk (Option.some.inj h1).symm
   ·exact .inl (zI.2 ⟨ht,by simpa using hk⟩)
  have same:∀w,bL u' w->(d=false->¬mh ofV addr b)->J d E w:=λw ew hnb=>by
   have zw:=ew.1;refine hJ d E w (V ew).1 (V ew).2 ⟨ab.trans ew,O,ew.bW X id,Q,iO,ew.bW Y id,λB e D=>?_,hf1⟩;rcases hf0 B e D with h|h
   ·rcases hkb e D h with h|rfl
    ·exact .inl h
    ·exact .inr (hnb B)
   ·exact .inr h
  refine yF (λr u2=>bL u' u2/\bZ u2 u'.size (fI b)/\r = !decide (mh ofV addr b)) (λr u2 ⟨ac,G,hr⟩=>?_) λJ1 hJ1=>?_
  ·by_cases M:mh ofV addr b
   ·refine cE (by rw[hr,zJ M];rfl) ?_;have pu:=(p.fr ab).fr ac;refine G.rI rfl (G.rI rfl (G.rI rfl (G.rI rfl (G.rI rfl (GW pu b λW e17=>?_)))));have E17:=ac.trans e17;have g:=e17.bW G id;have h617:=E17.bW X id;have aa:=E17.bW Y id;refine KH (λr u3=>u3=W/\(d=false->r=true)) (λr u3 ⟨hu3,hr3⟩=>?_) λJ2 hJ2=>?_
    ·rw[hu3];refine KH (λr1 u4=>u4=W/\(d=false->r1=true)) (λr1 u4 ⟨hu4,hr4⟩=>?_) λJ3 hJ3=>?_
     ·rw[hu4];refine cU (λh1=>?_) λh1=>same W E17 λB=>by rw[hr4 B]at h1;cases h1
      refine g.rI rfl (g.rI rfl (g.rI rfl (g.rI rfl (g.rI rfl ?_))));refine aa.s1 (by simp[fI]) λw3 q3 c3=>c3.s1 (by simp[fI]) λw4 q4 c4=>c4.s1 (by simp[fI]) λw5 q5 c5=>c5.s1 (by simp[fI]) λw6 q6 c6=>c6.s1 (by simp[fI]) λw7 q7 c7=>?_;have qo:Ext (· = v.size) W w7:=(((q3.ext.trans q4.ext).trans q5.ext).trans q6.ext).trans q7.ext;have c7':bZ w7 v.size (fI b):=c7;have z17:=E17.1;have zq:=qo.1;refine hJ true _ w7 ?_ ?_ ⟨Ext.fresh (ab.trans E17) qo λc (hc:c=v.size)=>O,O,qo.bW h617 (show ¬U.size=v.size by omega),Q,b,c7',λh=>(by cases h),λ_=>⟨(k,b),F _ N,rfl,M⟩⟩
      ·rw[qo.2 _ O (show ¬v1.size=v.size by omega)];exact(V E17).1
      ·rw[qo.2 _ O (show ¬km=v.size by omega)];exact(V E17).2
     ·refine cU (λh=>hJ3 _ _ ⟨rfl,λ_=>rfl⟩) λh=>?_;have S:¬d=false:=λB=>by rw[hr3 B]at h;cases h
      exact bV.intro (cU (λ_=>g.rI rfl (aa.rI rfl (hJ3 _ _ ⟨rfl,λB=>(S B).elim⟩))) λ_=>hJ3 _ _ ⟨rfl,λB=>(S B).elim⟩)
    ·refine cU (λh=>hJ2 _ _ ⟨rfl,λ_=>rfl⟩) λh=>?_;have S:¬d=false:=λB=>by rw[B]at h;cases h
     exact bV.intro (cU (λ_=>hJ2 _ _ ⟨rfl,λB=>(S B).elim⟩) λ_=>hJ2 _ _ ⟨rfl,λB=>(S B).elim⟩)
   ·exact cD (by rw[hr,zL M];rfl) (same u2 ac λ_=>M)
  ·have hS:∀m,bL v7 m->bZ m u'.size (fI b):=λm e=>e.bW A id;refine⟨λm=>bL v7 m,Ext.refl _ _,pn (c:=bO) (y:=b.1) hS rfl (cQ (λh=>hJ1 _ _ ⟨e7,A,?_⟩) λh=>?_)⟩
   ·rw[zL];rfl;rintro⟨h1,_⟩;exact absurd h O
   ·refine pn (c:=bO) (y:=b.1) hS rfl (im (c:=bO) (y:=b.1) hS rfl (im (c:=bO) (y:=b.2.1) hS rfl (im (c:=bO) (y:=b.2.2.1) hS rfl (im (c:=bO) (y:=b.2.2.2.1) hS rfl (im (c:=bO) (y:=b.2.2.2.2) hS rfl (hof b v7 _ bi λu3 e3=>⟨e3,ar O O (hJ1 _ _ ⟨e7.trans e3,e3.bW A id,?_⟩)⟩))))));rw[kT,mM,decide_eq_true_iff,decide_eq_false_iff_not];unfold mh;omega
theorem Re (b:B5)(u:Hp)(K:aN)(bi:ie b)(hK:∀u',bL u u'->K (ZJ b.2.1) u'):VH Tryz.prog ⟨98,#[],#[]⟩ [.agg #[.int .i64 b.1,.int .i64 b.2.1,.int .i64 b.2.2.1,.int .i64 b.2.2.2.1,.int .i64 b.2.2.2.2]] [.one bO] u K:=by
 have:=bi.s;refine GR (all := #[.agg #[.int .i64 b.1,.int .i64 b.2.1,.int .i64 b.2.2.1,.int .i64 b.2.2.2.1,.int .i64 b.2.2.2.2]]) (by kernel_rfl) aA ?_;exact Ht b O O hK
def IC (addr:Int)(b:B5):Prop:=mh (λb=>ZJ b.2.1) addr b
def uP (H:Hw)(x:Gu)(addr e:Int):Prop:=(e=7/\((∀k∈x.kn,¬IC addr k.2)\/addr%8≠0))\/(∃k∈x.kn,IC addr k.2/\addr%8=0/\e=if Ut H k.2 then 5 else 0)
set_option maxRecDepth 16000 in
theorem RM (p:GP σ0 U L H held s0 P gb km fm x)(xi:∀e∈x.kn,e.1=e.2.1/\ie e.2)(addr:Int){R:aN}(hR:∀e w,bL U w->uP H x addr e->R e w):YY.c (aW gb) addr U R:=by
 refine YY.o ?_;unfold YY.v;have M:∀b,ie b->0<=ZJ b.2.1/\ZJ b.2.1<=100000:=λb A=>by have:=A.s;have:=Z0 (n:=b.2.1) O;omega
 have box:∀{X:Nat} {w:Hp} {C S D F N:Int} {K:Addr->Hp->Prop},(∀d,bL w d->bZ d w.size (fI (C,S,D,F,N))->K ⟨w.size,0,none⟩ d) →
  Nw (.cells #[.int .i64 0,.int .i64 0,.int .i64 0,.int .i64 0,.int .i64 0] X (0,0)) w λm v2=>dU (m.add 0) (.int .i64 C) v2 λv3=>dU (m.add 1) (.int .i64 S) v3 λY=>dU (m.add 2) (.int .i64 D) Y λV=>dU (m.add 3) (.int .i64 F) V λZ=>dU (m.add 4) (.int .i64 N) Z λv7=>K m v7:=λ{X w C S D F N K} hK=>
  nw (cs:=fI (0,0,0,0,0)) λv2 hz2 e2 b2=>b2.s1 (by simp[fI]) λv3 o3 b3=>b3.s1 (by simp[fI]) λY o4 b4=>b4.s1 (by simp[fI]) λV o5 b5=>b5.s1 (by simp[fI]) λZ o6 b6=>b6.s1 (by simp[fI]) λv7 o7 g=>
   hK v7 (Ext.fresh e2 ((((o3.ext.trans o4.ext).trans o5.ext).trans o6.ext).trans o7.ext) λi (hi:i=w.size)=>O) g
 refine UY p (cE rfl (υ p xi addr M Re (λb w E hn=>?_) λk w E G j=>?_))
 ·refine box λd B g=>bV.intro (cD rfl (cD rfl (hR 7 d (E.trans B) (.inl ⟨rfl,.inl hn⟩))))
 ·refine box λd B g=>?_;have A:ie k.2:=(xi _ G).2;have h0:0<=addr:=by have:=j.1;have:=A.z;have:=A.base;omega
  have a:=E.trans B;refine KH (λr u=>u=d/\r=decide (addr%8≠0)) (λr u ⟨hu,W⟩=>?_) λJ hJ=>cE rfl (nz aB (hJ _ _ ⟨rfl,?_⟩))
  ·rw[hu];by_cases h8:addr%8≠0
   ·exact cD (by rw[W];exact zJ h8) (hR 7 d a (.inl ⟨rfl,.inr h8⟩))
   ·refine cE (by rw[W];exact zL h8) (g.rI rfl (g.rI rfl (g.rI rfl (g.rI rfl (g.rI rfl (GW (p.fr a) k.2 λw9 e9=>?_))))));have y:addr%8=0:=by omega
    refine cU (λQ=>hR 5 w9 (a.trans e9) (.inr ⟨k,G,j,y,by rw[Q];rfl⟩)) λQ=>hR 0 w9 (a.trans e9) (.inr ⟨k,G,j,y,by rw[Q];rfl⟩)
  ·rw[Kg h0];by_cases h8:addr%8=0
   ·rw[h8];decide
   ·rw[zJ h8];simpa using h8
theorem N4 (p:GP σ0 U L H held s0 P gb km fm x)(xi:∀e∈x.kn,e.1=e.2.1/\ie e.2)(addr:Int)(ha:addr<=9223372036854775807){R:Int->Int->Hp->Prop}(h0:∀e w,e≠0->bL U w->uP H x addr e->R 0 e w)(h1:∀w,bL U w->uP H x addr 0->R (Ka H.sp addr) (eO H.sp addr) w):Y4.c (aW gb) addr U R:=by
 refine Y4.o ?_;unfold Y4.v;refine RM p xi addr λe w a j=>cU (λg=>h0 e w (by simpa using g) a j) λd=>?_;have m:e=0:=by simpa using d
 subst m;have i:=p.fr a;exact aG (i.b.rP rfl (Cs i.h addr ha λr e2=>h1 r (a.trans e2) j))
theorem y7 (p:GP σ0 U L H held s0 P gb km fm x){R:Option Addr->Hp->Prop}(hR:R (some ⟨L.p,0,none⟩) U):W4.c (aW gb) U R:=by
 refine W4.o ?_;unfold W4.v;exact UY p (cE rfl (aG (p.b.rP rfl hR)))
end Go.Ar
namespace Go.Ar
open Go Go.Vc Go.Proofs
open Go.Vc (bU dB cT)
variable {size align:Int}{U σ0 v w w':Hp}{F P Q X T:Rg}{L:dH}{H H' H1:Hw}{held:List Pc}{s0 sp:Sp}{t n:Nat}{g:Th}{gb km fm m:Nat}{x y:Gu}{b:B5}
theorem iG.wo {n m:Nat}{H H1 H2:Hw}{t:Nat}{p:Ph}{a1 e1 a2 e2:Int}(h:iG n H t p H1 a1 e1)(h':iG m H t p H2 a2 e2):H1=H2/\a1=a2/\e1=e2:=by
 induction h generalizing m with
 | done h1 h2=>
  cases h' with
  | done=>exact⟨rfl,rfl,rfl⟩
  | next _ h3 _=>rw[h2]at h3;cases h3
 | next h1 h2 _ ih=>
  cases h' with
  | done _ h3=>rw[h2]at h3;cases h3
  | next _ h3 h4=>rw[h2]at h3;cases h3;exact ih h4
theorem KN.wo {thread kind size align addr a1 e1 a2 e2:Int}{H1 H2:Hw}(h:KN H thread kind size align addr H1 a1 e1)(h':KN H thread kind size align addr H2 a2 e2):H1=H2/\a1=a2/\e1=e2:=by
 rcases h with⟨h1,_,rfl,rfl⟩|⟨t,p,n,h1,h2⟩
 ·rcases h' with⟨g1,_,rfl,rfl⟩|⟨_,_,_,g1,_⟩
  ·rw[h1]at g1;cases g1;exact⟨rfl,rfl,rfl⟩
  ·rw[h1]at g1;cases g1
 ·rcases h' with⟨g1,_⟩|⟨_,_,_,g1,g2⟩
  ·rw[h1]at g1;cases g1
  ·rw[h1]at g1;cases g1;exact h2.wo g2
theorem F2:xo w0 64:=by
 have h:=ML (xs:=se 8) (p:=64) (a:=1) (t:=1) (b:=1024) (r:=2) (Fy 8 aB aB) aB;rw[wc]at h;exact h
theorem Lg {a:Option Addr}{thread addr:Int}{R:aN}(h:XQ.c a thread addr true U R):Y8.c a thread addr U R:=Y8.o (by unfold Y8.v;exact h)
theorem PM (H:Hw)(thread:Int):Ur H thread=if 0<=thread/\thread<(H.bR.length:Int)then fP H thread.toNat else none:=by
 unfold Ur fP;split
 ·cases H.bR[thread.toNat]?<;>rfl
 ·rfl
theorem Fm {a b:Sl}{xs ys:List Int}{G:Rg}(ha:cV a 1 (WD xs) U F)(hb:cV b 1 (WD ys) U G)(hl:xs.length<=1000000000){R:aO}(hR:R (decide (xs=ys)) U):XG.c a b U R:=by
 refine XG.o ?_;unfold XG.v;have A:a.len=xs.length:=by have:=ha.1;simp[WD]at this;omega
 have z:b.len=ys.length:=by have:=hb.1;simp[WD]at this;omega
 rw[A,z,qO];refine cU (λr=>?_) λr=>?_
 ·have d:xs.length≠ys.length:=by simpa using r
  rw[zL λe=>d (by rw[e])]at hR;exact hR
 have K:xs.length=ys.length:=by simpa using r
 refine Qg (a:=bO) (λ(t:Int) v=>∃i:Nat,t=(i:Int)/\i<=xs.length/\v=U/\xs.take i=ys.take i) (λt _=>xs.length-t.toNat) ⟨0,rfl,O,rfl,rfl⟩ ?_;rintro t v ⟨i,rfl,J,rfl,g⟩;refine cQ (λH=>?_) λD=>?_
 ·have u:i<xs.length:=by omega
  have j:xs[i]?=some xs[i]:=cX u;have p:ys[i]?=some (ys[i]' O):=cX _;generalize xs[i]=x at j;generalize ys[i]' O=y at p;rw[←A,←z];refine ha.mi j (hb.mi p (cU (λd=>?_) λs=>?_))
  ·have E:x≠y:=by simpa using d
   rw[zL]at hR
   ·exact hR
   ·intro e;rw[e,p]at j;exact E (Option.some.inj j).symm
  ·have w:x=y:=by simpa using s
   refine cS (m:=i+1) O O ⟨⟨i+1,rfl,O,rfl,?_⟩,O⟩;rw[ko,ko,g,j,p,w]
 ·have C:i=xs.length:=by omega
  have:xs=ys:=by
   have B:=g;rw[lz O,lz O]at B;exact B
  rw[zJ this]at hR;exact hR
def gm:Hw×Int×Int:=(Uw w0 0 0 56 16 0).getD (w0,0,99)
theorem De:gm.2=(4096,0):=by decide +kernel
theorem Dl:KN w0 0 0 56 16 0 gm.1 4096 0:=by
 have a:=De;unfold gm at *;cases hw:Uw w0 0 0 56 16 0 with
 | none=>rw[hw]at a;exact absurd (congrArg Prod.snd a) aB
 | some r=>
  rw[hw]at a;have:=FO hw;have e1:r.2=(4096,0):=a;rw[e1]at this;exact this
def gB:B5:=(4112,24,4096,64,1)
theorem Ci:Kf gm.1 4096=some 64:=by decide +kernel
def gX:Gu:=Bd.fC gB
def uF:Hw:={gm.1 with sp:=kh gm.1.sp gB}
attribute [local irreducible] w0 gm uF
end Go.Ar
namespace Go.Ar
open Go.Vc (bU dB cT)
variable {size align thread addr:Int}{H H' H1:Hw}{held held1:List Pc}{s0 s1 sp:Sp}{x y:Gu}{b:B5}
theorem Jk {α:Type}{l:List (Int×α)}{n:Int}(h:bU l n=none)(v:α):dB l n v=l++[(n,v)]:=by
 unfold dB;rw[zB];intro hx;obtain⟨y,a,e⟩:=zy.1 hx;unfold bU at h;rw[r5,nY]at h;exact h y a e
theorem Hv {α:Type}{l:List (Int×α)}{n:Int}:bU l n=none↔∀e∈l,e.1≠n:=by
 unfold bU;rw[r5,nY];simp only[zT]
theorem UB {α β:Type}{f:α->β}:∀{l:List α},(l.map f).Nodup->∀{a b:α},a∈l->b∈l->f a=f b->a=b
 | [],_,_,_,h,_,_=>by simp at h
 | z::l,hn,a,b,ha,hb,e=>by
  simp only[zS,zt]at hn;rcases zX.1 ha with h1|h1
  ·rcases zX.1 hb with h2|h2
   ·rw[h1,h2]
   ·exact absurd (zF.2 ⟨b,h2,by rw[←e,h1]⟩) hn.1
  ·rcases zX.1 hb with h2|h2
   ·exact absurd (zF.2 ⟨a,h1,by rw[e,h2]⟩) hn.1
   ·exact UB hn.2 h1 h2 e
theorem A0 (h:HI H held s0){e:Int×Bk}(he:e∈H.live){w:Nat}(h1:e.1<=((8*w:Nat):Int))(h2:((8*w:Nat):Int)<e.1+e.2.2.1):gf H.sp.st (w/32)≠0:=by
 obtain⟨_,p,a,_,_,d,b,_⟩:=h.lv e he;have:=h.mapped a (x:=8*w) O O
 rwa [show 8*w/256=w/32 by omega]at this
structure eT (H:Hw) (x:Gu):Prop where
 live:H.live.map (λe=>(e.1,e.2.2.1))=x.kn.map (λe=>(e.2.2.2.1,e.2.2.2.2.1))
 can:∀e∈x.kn,∀z∈Zq e.2,Ka H.sp z=jI z
 ph:∀j,fP H j=none
 i:∀e∈x.kn,e.1=e.2.1/\ie e.2
 nd:(x.kn.map (·.1)).Nodup
theorem FX (hi:HI H held s0){e e':Int×Bk}(he:e∈H.live)(he':e'∈H.live){z:Int}(h1:e.1<=z)(h2:z<e.1+e.2.2.1)(h3:e'.1<=z)(h4:z<e'.1+e'.2.2.1):e=e':=by
 obtain⟨_,p,b,_,_,a,j,_⟩:=hi.lv e he;obtain⟨_,q,g,_,_,d,i,_⟩:=hi.lv e' he';have:p=q:=hi.apart b g (x:=z.toNat) O O O O;subst this;exact UB hi.lk he he' (by rw[←a,←d])
theorem eT.of (g:eT H x){e:Int×B5}(he:e∈x.kn):∃l∈H.live,l.1=e.2.2.2.1/\l.2.2.1=e.2.2.2.2.1:=by
 have:(e.2.2.2.1,e.2.2.2.2.1)∈H.live.map (λe=>(e.1,e.2.2.1)):=by rw[g.live];exact zF.2 ⟨e,he,rfl⟩
 obtain⟨l,a,h⟩:=zF.1 this;simp only[Prod.mk.injEq]at h;exact⟨l,a,h.1,h.2⟩
theorem eT.rJ (g:eT H x)(hi:HI H held s0):(x.kn.map λe=>e.2.2.2.1).Nodup:=by
 have a:=congrArg (List.map Prod.fst) g.live;rw[lB,lB]at a;have b:(x.kn.map λe=>e.2.2.2.1)=H.live.map (·.1):=a.symm;rw[b];exact hi.lk
theorem eT.apart (g:eT H x)(hi:HI H held s0){e e':Int×B5}(he:e∈x.kn)(he':e'∈x.kn){z:Int}(h1:e.2.2.2.1<=z)(h2:z<e.2.2.2.1+e.2.2.2.2.1)(h3:e'.2.2.2.1<=z)(h4:z<e'.2.2.2.1+e'.2.2.2.2.1):e=e':=by
 obtain⟨l,d,b,p⟩:=g.of he;obtain⟨m,a,i,j⟩:=g.of he';have:=FX hi d a (z:=z) O O O O;subst this;exact UB (g.rJ hi) he he' (by rw[←b,←i])
theorem eT.usable (g:eT H x)(hi:HI H held s0){e:Int×B5}(he:e∈x.kn):Kf H e.2.2.2.1=some e.2.2.2.2.1:=by
 obtain⟨l,a,d,b⟩:=g.of he;unfold Kf;rw[←d,QG hi.lk (show(l.1,l.2)∈H.live from a)];exact congrArg some b
theorem eT.lost (g:eT H x)(hi:HI H held s0){e:Int×B5}(he:e∈x.kn):Ut H e.2=false:=by
 unfold Ut;rw[g.usable hi he];simp
theorem eT.map (g:eT H x)(hi:HI H held s0){e:Int×B5}(he:e∈x.kn){w:Nat}(h1:e.2.2.2.1<=((8*w:Nat):Int))(h2:((8*w:Nat):Int)<e.2.2.2.1+e.2.2.2.2.1):gf H.sp.st (w/32)≠0:=by
 obtain⟨l,a,d,b⟩:=g.of he;exact A0 hi a O O
theorem ie.word (bi:ie b){z:Int}(h:z∈Zq b\/z∈Yb b):(∃w:Nat,z=((8*w:Nat):Int))/\b.2.2.1<=z/\z<b.2.2.1+b.2.2.2.1:=by
 have a:=bi.base;have e:=bi.z;have d:=bi.t;rcases h with h|h
 ·have:=HF bi h;exact⟨⟨z.toNat/8,O⟩,O,O⟩
 ·have:=HC bi h;exact⟨⟨z.toNat/8,O⟩,O,O⟩
theorem ie.nw (bi:ie b){z:Int}(h:z∈Zq b):z∉Yb b:=λa=>by
 have d:=HF bi h;have e:=HC bi a;omega
theorem eT.acc (g:eT H x)(hi:HI H held s0){e:Int×B5}(he:e∈x.kn){z:Int}(h:z∈Zq e.2\/z∈Yb e.2):eO H.sp z=0:=by
 obtain⟨⟨w,rfl⟩,a,b⟩:=(g.i e he).2.word h;exact UP.2 (g.map hi he a b)
theorem eT.broken (g:eT H x)(hi:HI H held s0){e:Int×B5}(he:e∈x.kn):QC H.sp e.2=[]:=by
 unfold QC;rw[List.filter_eq_nil_iff];intro z hz;unfold jE;rw[g.acc hi he (.inl hz),g.can e he z hz];simp
theorem eT.cK (g:eT H x)(hi:HI H held s0):Fx H x=[]:=by
 unfold Fx;rw[List.flatMap_eq_nil_iff];intro e he;unfold Ip;rw[g.lost hi he,g.broken hi he];rfl
theorem eT.kJ (bi:ie b){z:Int}(h1:b.1<=z)(h2:z<b.1+ZJ b.2.1)(h8:z%8=0):z∈Yb b:=by
 have:=bi.z;have a:=Z0 (n:=b.2.1) (by have:=bi.s;omega);refine zF.2 ⟨((z-b.1)/8).toNat,zh.2 ?_,O⟩;unfold Qm;omega
theorem BO (hi:HI H held s0)(ks:KS H.sp sp){l:Int×Bk}(hl:l∈H.live){w:Nat}(h1:l.1<=((8*w:Nat):Int))(h2:((8*w:Nat):Int)<l.1+l.2.2.1):Ka sp ((8*w:Nat):Int)=Ka H.sp ((8*w:Nat):Int)/\gf sp.st (w/32)≠0:=by
 have a:=A0 hi hl h1 h2;have:=ks.k _ a;rw[yz,yz,zC a,zC this.1,this.2 w rfl];exact⟨rfl,this.1⟩
def Kept (H:Hw)(x:Gu)(H':Hw)(x':Gu)(e:Int×B5):Prop:=e∈x'.kn/\∀z∈Yb e.2,Ka H'.sp z=Ka H.sp z
theorem S9 (bi:ie b):∀z∈Zq b,0<=z/\z%8=0:=λz a=>by
 have:=HF bi a;have:=bi.base;omega
theorem I6 (bi:ie b):∀z∈Yb b,0<=z/\z%8=0:=λz a=>by
 have:=HC bi a;have:=bi.base;have:=bi.z;omega
theorem eT.fC (g:eT H x)(hi:HI H held s0)(gr:xw H x size align b H1)(o:fY H H1)(hi1:HI H1 held1 s1) :
 eT {H1 with sp:=kh H1.sp b} (x.fC b)/\(x.fC b).kn=x.kn++[(b.1,b)]/\(∀e∈x.kn,Kept H x {H1 with sp:=kh H1.sp b} (x.fC b) e)/\(∀z∈Yb b,Ka (kh H1.sp b) z=0)/\eO (kh H1.sp b) b.1=0:=by
 have bi:=gr.bi;obtain⟨B,cl,y,_⟩:bU H.live b.2.2.1=none/\∃cl,H1.live=dB H.live b.2.2.1 (b.2.2.1,(oP H.tb (zA align+ZJ size+16) (zA align)).1,cl,X9 H1.bY b.2.2.1)/\True:=by
  rcases gr.me with⟨h,_⟩|⟨_,E,_,cl,F,_⟩
  ·exact absurd rfl h
  ·exact⟨E,cl,F,trivial⟩
 have V:=gr.u;unfold Kf at V;rw[y,Cu]at V;have L:(oP H.tb (zA align+ZJ size+16) (zA align)).1=b.2.2.2.1:=Option.some.inj V;rw[L]at y;rw[Jk B]at y;have M:∃l∈H1.live,l.1=b.2.2.1/\l.2.2.1=b.2.2.2.1:=⟨(b.2.2.1,(b.2.2.1,b.2.2.2.1,cl,X9 H1.bY b.2.2.1)),by rw[y];simp,rfl,rfl⟩;obtain⟨ln,N,U,ln2⟩:=M;have S:∀l∈H.live,l∈H1.live:=λl K=>by rw[y];exact kC _ K
 have G:∀e∈x.kn,∀z,e.2.2.2.1<=z->z<e.2.2.2.1+e.2.2.2.2.1->b.2.2.1<=z->z<b.2.2.1+b.2.2.2.1->False:=λe d z E F h3 h4=>by
  obtain⟨l,K,a1,a2⟩:=g.of d;have:=FX hi1 (S l K) N (z:=z) O O O O;subst this;have:=Hv.1 B l K;exact this U
 have Z:=bi.base;have hb2:=bi.z;have hb3:=bi.t;have hww:=Z0 (n:=b.2.1) (by have:=bi.s;omega);have R:bU x.kn b.1=none:=Hv.2 λe d h=>by
  have r:=(g.i e d);have q0:=r.1;have q4:=r.2.s;have hbs:=bi.s;have q1:=r.2.base;have q2:=r.2.z;have q3:=r.2.t;have qw:=Z0 (n:=e.2.2.1) (by have:=r.2.s;omega);exact G e d b.1 O O O O
 have A:(x.fC b).kn=x.kn++[(b.1,b)]:=Jk R b;have p:∀z,(z∈Zq b\/z∈Yb b)->∃w:Nat,z=((8*w:Nat):Int)/\gf H1.sp.st (w/32)≠0:=λz m=>by
  obtain⟨⟨w,rfl⟩,E,F⟩:=bi.word m;exact⟨w,rfl,A0 hi1 N O O⟩
 have J:=S9 bi;have D:=I6 bi;obtain⟨_,Y,_⟩:=Ag jI (Zq b) H1.sp J;have Q:∀w:Nat,((8*w:Nat):Int)∉Zq b->((8*w:Nat):Int)∉Yb b->Ka (kh H1.sp b) ((8*w:Nat):Int)=Ka H1.sp ((8*w:Nat):Int):=λw E F=>by
  unfold kh;rw[Vt D,zB λh=>F h.1,Vt J,zB λh=>E h.1]
 have C:∀e∈x.kn,∀z,(z∈Zq e.2\/z∈Yb e.2)->Ka (kh H1.sp b) z=Ka H.sp z:=λe d z m=>by
  obtain⟨l,K,a1,a2⟩:=g.of d;obtain⟨⟨w,rfl⟩,E,F⟩:=(g.i e d).2.word m;have:=BO (H:=H) hi o.ks K (w:=w) O O;rw[Q w (λm=>by have:=bi.word (.inl m);exact G e d _ E F this.2.1 this.2.2) (λm=>by have:=bi.word (.inr m);exact G e d _ E F this.2.1 this.2.2)];exact this.1
 refine⟨⟨?_,λe d z m=>?_,λj=>(o.ph j).trans (g.ph j),λe d=>?_,?_⟩,A,λe d=>⟨by rw[A];exact kC _ d,λz m=>C e d z (.inr m)⟩,λz m=>?_,?_⟩
 ·show H1.live.map _=_;rw[y,A,jU,jU,g.live];rfl
 ·show Ka (kh H1.sp b) z=jI z;rw[A]at d;rcases zK.1 d with d|d
  ·rw[C e d z (.inl m)];exact g.can e d z m
  ·rw[zP]at d;subst d;obtain⟨w,rfl,P⟩:=p z (.inl m);unfold kh;rw[Vt D,zB λh=>bi.nw m h.1,Vt J,zC ⟨m,P⟩]
 ·rw[A]at d;rcases zK.1 d with d|d
  ·exact g.i e d
  ·rw[zP]at d;subst d;exact⟨rfl,bi⟩
 ·rw[A,jU,nT];refine⟨g.nd,by simp,λa ha c X=>?_⟩;simp only[zS,rp,zP]at X;subst X;obtain⟨e,d,rfl⟩:=zF.1 ha;exact Hv.1 R e d
 ·obtain⟨w,rfl,P⟩:=p z (.inr m);unfold kh;rw[Vt D,zC ⟨m,λh=>P ((Y _).1 h)⟩]
 ·have W:b.1∈Yb b:=eT.kJ bi (wP _) (by have:=bi.s;omega) bi.z.2.2;obtain⟨w,hw,P⟩:=p b.1 (.inr W);obtain⟨_,k2,_⟩:=Ag (λ_=>0) (Yb b) (jJ H1.sp (Zq b) jI) D;rw[hw];unfold kh;exact UP.2 λh=>P ((Y _).1 ((k2 _).1 h))
theorem eT.same (g:eT H x)(hi:HI H held s0)(o:fY H H')(hl:H'.live=H.live):eT H' x/\∀e∈x.kn,Kept H x H' x e:=by
 have a:∀e∈x.kn,∀z,(z∈Zq e.2\/z∈Yb e.2)->Ka H'.sp z=Ka H.sp z:=λe b z d=>by
  obtain⟨l,hl,m,r⟩:=g.of b;obtain⟨⟨w,rfl⟩,s,p⟩:=(g.i e b).2.word d;exact(BO (H:=H) hi o.ks hl (w:=w) O O).1
 exact⟨⟨by rw[hl];exact g.live,λe b z d=>by rw[a e b z (.inl d)];exact g.can e b z d,λj=>(o.ph j).trans (g.ph j),g.i,g.nd⟩,λe b=>⟨b,λz d=>a e b z (.inr d)⟩⟩
theorem eT.write (g:eT H x)(hi:HI H held s0){k:Int×B5}(hk:k∈x.kn){z v:Int}(hz:z∈Yb k.2):eT {H with sp:=ZM H.sp z v} x/\(∀e∈x.kn,e≠k->Kept H x {H with sp:=ZM H.sp z v} x e)/\(∀u∈Yb k.2,Ka (ZM H.sp z v) u=if u=z then v else Ka H.sp u):=by
 obtain⟨⟨b,rfl⟩,A,C⟩:=(g.i k hk).2.word (.inr hz);have r:=g.map hi hk A C;have m:∀w:Nat,Ka (ZM H.sp ((8*b:Nat):Int) v) ((8*w:Nat):Int)=if w=b/\gf H.sp.st (w/32)≠0 then v else Ka H.sp ((8*w:Nat):Int):=λw=>by
  have:=Vt (f:=λ_=>v) (l:=[((8*b:Nat):Int)]) (sp:=H.sp) (λz hz=>by rw[zP]at hz;subst hz;omega) w;have e:jJ H.sp [((8*b:Nat):Int)] (λ_=>v)=ZM H.sp ((8*b:Nat):Int) v:=rfl;rw[e]at this;rw[this];by_cases hw:w=b
  ·subst hw;by_cases hm:gf H.sp.st (w/32)≠0
   ·rw[zC ⟨zP.2 rfl,hm⟩,zC ⟨rfl,hm⟩]
   ·rw[zB λh=>hm h.2,zB λh=>hm h.2]
  ·rw[zB λh=>hw (by have:=zP.1 h.1;omega),zB λh=>hw h.1]
 have j:∀e∈x.kn,∀u,(u∈Zq e.2\/u∈Yb e.2)->(e=k->u∈Zq e.2)->Ka (ZM H.sp ((8*b:Nat):Int) v) u=Ka H.sp u:=λe a u d p=>by
  obtain⟨⟨w,rfl⟩,y,B⟩:=(g.i e a).2.word d;rw[m,zB];rintro⟨rfl,_⟩;have:=g.apart hi a hk y B A C;subst this;exact(g.i e a).2.nw (p rfl) hz
 refine⟨⟨g.live,λe a u d=>?_,g.ph,g.i,g.nd⟩,λe a s=>⟨a,λu d=>j e a u (.inr d) λh=>absurd h s⟩,λu d=>?_⟩
 ·show Ka (ZM H.sp ((8*b:Nat):Int) v) u=jI u;rw[j e a u (.inl d) λ_=>d];exact g.can e a u d
 ·obtain⟨⟨w,rfl⟩,y,B⟩:=(g.i k hk).2.word (.inr d);rw[m];by_cases hw:w=b
  ·subst hw;rw[zC ⟨rfl,r⟩,zC rfl]
  ·rw[zB λh=>hw h.1,zB λh=>hw O]
theorem eT.free (g:eT H x)(hi:HI H held s0){b:B5}(hk:bU x.kn addr=some b){e:Int}(hw:KN (eX H b) thread 1 0 0 b.2.2.1 H1 0 e)(o:fY (eX H b) H1)(fe:nD (eX H b) thread b.2.2.1 H1 e)(hrd:QU H thread=0)(hcf:H.cf.threads=H.bR.length) :
 eT H1 (x.gone addr)/\∀k∈x.kn,k.1≠addr->Kept H x H1 (x.gone addr) k:=by
 have a:(addr,b)∈x.kn:=KK hk;have D:=g.i _ a;have Q:addr=b.1:=D.1;have L:ie b:=D.2;obtain⟨l,S,K,N⟩:=g.of a;simp only at K N;have G:(eX H b).live=H.live:=rfl;have J:bU H.live b.2.2.1=some l.2:=by rw[←K];exact QG hi.lk (show(l.1,l.2)∈H.live from S)
 have r:H1.live=cT H.live b.2.2.1:=by
  rcases fe with⟨_,_,h⟩|⟨_,h,_⟩|⟨_,_,_,_,h⟩
  ·exfalso;unfold QU at hrd;rw[PM]at hrd;split at hrd
   ·cases hrd
   ·rename_i hth;have p:=g.ph thread.toNat;unfold KP at h;have C:thread.toNat<H.bR.length:=by omega
    rw[zC (show 0<=thread/\thread<((eX H b).bR.length:Int)from⟨O,by show thread<(H.bR.length:Int);omega⟩)]at h;have R:(eX H b).bR[thread.toNat]?=some H.bR[thread.toNat]:=cX C;rw[R]at h;simp only at h;unfold fP at p;rw[cX C]at p;rw[zC (show H.bR[thread.toNat].ph=none from p)]at h;unfold iK at h;rw[zB aB,zC rfl]at h;cases h
  ·rw[G,J]at h;cases h
  ·exact h
 have E:=I6 L;have u:∃s1,HI (eX H b) held s1:=HI.jJ _ _ hi;obtain⟨s1,u⟩:=u;have d:∀k∈x.kn,k.1≠addr->∀z,(z∈Zq k.2\/z∈Yb k.2)->Ka H1.sp z=Ka H.sp z:=λk hk m z A=>by
  obtain⟨M,F,W,V⟩:=g.of hk;obtain⟨⟨w,rfl⟩,P,U⟩:=(g.i k hk).2.word A;rw[(BO u o.ks (l:=M) F (w:=w) O O).1];show Ka (jJ H.sp (Yb b) λ_=>uW) _=_;rw[Vt E,zB];rintro⟨hw,_⟩;have B:=L.word (.inr hw);have:=g.apart hi hk a P U B.2.1 B.2.2;subst this;exact m rfl
 have s:∀k,k∈(x.gone addr).kn↔k∈x.kn/\k.1≠addr:=λk=>by
  show k∈cT x.kn addr↔_;unfold cT;rw[zI];simp
 refine⟨⟨?_,λk hk z A=>?_,λj=>(o.ph j).trans (g.ph j),λk hk=>g.i k ((s k).1 hk).1,?_⟩,λk hk m=>⟨(s k).2 ⟨hk,m⟩,λz A=>d k hk m z (.inr A)⟩⟩
 ·rw[r];show(cT H.live b.2.2.1).map _=(cT x.kn addr).map _;unfold cT;have e1:(H.live.filter λy=>!(y.1==b.2.2.1)).map (λe=>(e.1,e.2.2.1))=(H.live.map λe=>(e.1,e.2.2.1)).filter λq=>!(q.1==b.2.2.1):=by rw[wW];rfl
  rw[e1,g.live,wW]
  congr 1
  apply vS;intro k hk;simp only[Function.comp]
  congr 1
  rw[kT,zT,zT];constructor
  ·intro h;have:=UB (g.rJ hi) hk a h;rw[this]
  ·intro h;have:=UB g.nd hk a h;rw[this]
 ·have:=(s k).1 hk;rw[d k this.1 this.2 z (.inl A)];exact g.can k this.1 z A
 ·show((cT x.kn addr).map _).Nodup;exact g.nd.sublist (List.filter_sublist.map _)
end Go.Ar
namespace Go.Ar
open Go Go.Vc Go.Proofs
open Go.Vc (bU dB cT)
variable {size align:Int}{U σ0 v w w':Hp}{F P Q X T:Rg}{L:dH}{H H' H1:Hw}{held:List Pc}{s0 sp:Sp}{t n:Nat}{g:Th}{gb km fm m xb:Nat}{x y:Gu}{b:B5}
def Az (gb:Nat)(addrs ls:Sl):List Value:=[.pointer (some ⟨gb,0,none⟩),.slice addrs.a addrs.len addrs.cap,.slice ls.a ls.len ls.cap]
structure nO (σ0 U:Hp) (xb:Nat) (L:dH) (H:Hw) (held:List Pc) (s0:Sp) (P:Rg) (gb km fm:Nat) (x:Gu) (Qa Ql:Rg) (addrs:Sl) (ad:List Int) (ls:Sl) (la:List T3):Prop where
 p:GP σ0 U L H held s0 P gb km fm x
 b:bZ U xb (Az gb addrs ls)
 ra:bS addrs 1 (WD ad) U Qa
 rl:bS ls 3 (lA la) U Ql
 y8:σ0.size<=xb/\¬Mg P gb km fm xb/\¬Qa xb/\¬Ql xb
 qa:∀b,Qa b->σ0.size<=b/\b<U.size/\¬Mg P gb km fm b
 ql:∀b,Ql b->σ0.size<=b/\b<U.size/\¬Mg P gb km fm b
 qq:∀b,Qa b->¬Ql b
variable {Qa Ql:Rg}{addrs ls:Sl}{ad:List Int}{la:List T3}
theorem nO.fr (o:nO σ0 U xb L H held s0 P gb km fm x Qa Ql addrs ad ls la)(e:bL U w):nO σ0 w xb L H held s0 P gb km fm x Qa Ql addrs ad ls la:=
 ⟨o.p.fr e,e.bW o.b id,aI.bP o.ra e,aI.bP o.rl e,o.y8,λb a=>by have h:=o.qa b a;have:=e.1;exact⟨h.1,O,h.2.2⟩,λb a=>by have h:=o.ql b a;have:=e.1;exact⟨h.1,O,h.2.2⟩,o.qq⟩
theorem E8 {P':Rg}(hg:gb<n/\km<n/\fm<n)(hP:∀b,P' b->P b\/n<=b):∀b,Mg P' gb km fm b->Mg P gb km fm b\/n<=b:=by
 rintro b (h|h)
 ·exact(hP b h).imp .inl id
 ·exact .inl (.inr h)
theorem nO.eZ (o:nO σ0 U xb L H held s0 P gb km fm x Qa Ql addrs ad ls la){L':dH}{held':List Pc}{s0':Sp}{P':Rg}(e:Ext (Mg P gb km fm) U w)(p':GP σ0 w L' H' held' s0' P' gb km fm y)(hP:∀b,P' b->P b\/U.size<=b) :
 nO σ0 w xb L' H' held' s0' P' gb km fm y Qa Ql addrs ad ls la:=by
 have C:=e.1;have a:=o.b.lt;obtain⟨s,r,B,A⟩:=o.y8;have j:∀b,b<U.size->¬Mg P gb km fm b->¬Mg P' gb km fm b:=λb D u z=>by
  rcases E8 ⟨o.p.b.lt,o.p.m.lt,o.p.f.lt⟩ hP b z with h4|h4
  ·exact u h4
  ·omega
 exact⟨p',e.bW o.b r,aI.bT o.ra e λb _ g d=>(o.qa b g).2.2 d,aI.bT o.rl e λb _ g d=>(o.ql b g).2.2 d,⟨s,j _ a r,B,A⟩,λb i=>by have h:=o.qa b i;exact⟨h.1,O,j b h.2.1 h.2.2⟩,λb i=>by have h:=o.ql b i;exact⟨h.1,O,j b h.2.1 h.2.2⟩,o.qq⟩
theorem Vq {c:Nat}(h:¬Mg P gb km fm c):¬P c/\c≠gb/\c≠km/\c≠fm:=⟨λa=>h (.inl a),λe=>h (.inr (.inl e)),λe=>h (.inr (.inr (.inl e))),λe=>h (.inr (.inr (.inr e)))⟩
theorem u6 (p:GP σ0 U L H held s0 P gb km fm x){c:Nat}(h:Mg P gb km fm c):c<U.size:=by
 rcases h with h|rfl|rfl|rfl
 ·exact(p.pP c h).2
 ·exact p.b.lt
 ·exact p.m.lt
 ·exact p.f.lt
theorem nO.cF (o:nO σ0 U xb L H held s0 P gb km fm x Qa Ql addrs ad ls la){s':Sl}{ad':List Int}(e:Ext Qa U w)(hr:bS s' 1 (WD ad') w λb=>Qa b\/U.size<=b/\b<w.size){K:aP}
 (hK:∀u,Ext (· = xb) w u->nO σ0 u xb L H held s0 P gb km fm x (λb=>Qa b\/U.size<=b/\b<w.size) Ql s' ad' ls la->K u):dU (Addr.add ⟨xb,0,none⟩ 1) (.slice s'.a s'.len s'.cap) w K:=by
 have J:=e.1;have D:=o.b.lt;obtain⟨y,A,s,z⟩:=o.y8;have C:=o.p.out e λb _ d=>by have h:=o.qa b d;have g:=Vq h.2.2;exact⟨g.1,g.2.1,g.2.2.1,g.2.2.2,h.1⟩
 have r:=aI.bT o.rl e λb _ m F=>o.qq b F m;refine(e.bW o.b s).s1 (by simp[Az]) λu B b=>?_;have j:=B.ext;have E:=B.1;have g:=Vq A;refine hK u j ⟨C.out j λb _ (d:b=xb)=>by subst d;exact⟨g.1,g.2.1,g.2.2.1,g.2.2.2,y⟩,b,aI.bT hr j λb _ i (d:b=xb)=>?_,aI.bT r j λb _ i (d:b=xb)=>z (d▸i),⟨y,A,?_,z⟩,λb d=>?_,λb d=>by have h:=o.ql b d;exact⟨h.1,O,h.2.2⟩,λb d m=>?_⟩
 ·subst d;rcases i with i|i
  ·exact s i
  ·omega
 ·rintro(i|i)
  ·exact s i
  ·omega
 ·rcases d with d|d
  ·have h:=o.qa b d;exact⟨h.1,O,h.2.2⟩
  ·have:=o.p.e.1;exact⟨O,O,λG=>by have:=u6 o.p G;omega⟩
 ·rcases d with d|d
  ·exact o.qq b d m
  ·have:=(o.ql b m).2.1;omega
theorem nO.ij (o:nO σ0 U xb L H held s0 P gb km fm x Qa Ql addrs ad ls la){s':Sl}{la':List T3}{Ql':Rg}(e:Ext Ql U w)(hr:bS s' 3 (lA la') w Ql')(hQ:∀b,Ql' b->Ql b\/U.size<=b/\b<w.size){K:aP}
 (hK:∀u,Ext (· = xb) w u->nO σ0 u xb L H held s0 P gb km fm x Qa Ql' addrs ad s' la'->K u):dU (Addr.add ⟨xb,0,none⟩ 2) (.slice s'.a s'.len s'.cap) w K:=by
 have M:=e.1;have E:=o.b.lt;obtain⟨s,A,B,z⟩:=o.y8;have D:=o.p.out e λb _ d=>by have h:=o.ql b d;have g:=Vq h.2.2;exact⟨g.1,g.2.1,g.2.2.1,g.2.2.2,h.1⟩
 have r:=aI.bT o.ra e λb _ G i=>o.qq b G i;refine(e.bW o.b z).s1 (by simp[Az]) λu C b=>?_;have j:=C.ext;have F:=C.1;have g:=Vq A;have y:¬Ql' xb:=λh=>by
  rcases hQ xb h with h|h
  ·exact z h
  ·omega
 refine hK u j ⟨D.out j λb _ (d:b=xb)=>by subst d;exact⟨g.1,g.2.1,g.2.2.1,g.2.2.2,s⟩,b,aI.bT r j λb _ m (d:b=xb)=>B (d▸m),aI.bT hr j λb _ m (d:b=xb)=>y (d▸m),⟨s,A,B,y⟩,λb d=>by have h:=o.qa b d;exact⟨h.1,O,h.2.2⟩,λb d=>?_,λb d i=>?_⟩
 ·rcases hQ b d with d|d
  ·have h:=o.ql b d;exact⟨h.1,O,h.2.2⟩
  ·have:=o.p.e.1;exact⟨O,O,λJ=>by have:=u6 o.p J;omega⟩
 ·rcases hQ b i with i|i
  ·exact o.qq b d i
  ·have:=(o.qa b d).2.1;omega
inductive nJ (H:Hw) (x:Gu) (d:gQ) (a:Int):Hw->Gu->Int->Option Int->Bool->Prop where
 | same (e:Int):(e=0->d.kd≠20/\d.kd≠21/\d.kd≠22)->nJ H x d a H x e none false
 | full {H':Hw} {e:Int}:d.kd=20->mF d.a d.b=true->e≠0->KN H d.th 0 (zA d.b+ZJ d.a+16) (zA d.b) 0 H' 0 e->fY H H'->H'.live=H.live->nJ H x d a H' x e none false
 | fC {b:B5} {H1:Hw}:d.kd=20->xw H x d.a d.b b H1->KN H d.th 0 (zA d.b+ZJ d.a+16) (zA d.b) 0 H1 b.2.2.1 0->fY H H1->nJ H x d a {H1 with sp:=kh H1.sp b} (x.fC b) 0 (some b.1) false
 | wT {b:B5} {H1:Hw} {e:Int}:(d.kd=21\/d.kd=22)->bU x.kn a=some b->mf H x d.th a true=0->KN (eX H b) d.th 1 0 0 b.2.2.1 H1 0 e->fY (eX H b) H1->nD (eX H b) d.th b.2.2.1 H1 e->nJ H x d a H1 (x.gone a) 0 none true
 | wrote:d.kd=26->uP H x a 0->nJ H x d a {H with sp:=ZM H.sp a d.va} x (eO H.sp a) none false
def Nf (d:gQ)(add:Option Int)(del:Bool)(a:Int)(la:List T3):List T3:=match add with
 | some b=>la++[(b,d.a,d.b)]
 | none=>if del then la.filter λq=>!(q.1==a)else la
end Go.Ar
namespace Go.Ar
open Go Go.Vc Go.Proofs
open Go.Vc (bU dB cT)
open Go.Bu (eW Vu U8)
variable {size align a:Int}{U σ0 v w w':Hp}{F P Q X T:Rg}{L:dH}{H H' H1:Hw}{held held' held1:List Pc}{s0 s0' s1 sp:Sp}{t n:Nat}{gb km fm m xb:Nat}{x x' y:Gu}{b:B5}{ad:List Int}{la:List T3}{d:gQ}{add:Option Int}{del:Bool}{e:Int}{l:Sl}{ds:List gQ}
theorem Jv {s c al:Int}{i:Int}(h1:256%al=0)(h2:c%al=0):(s*256+i*c)%al=0:=by
 obtain⟨q1,e1⟩:=yp h1;obtain⟨q2,e2⟩:=yp h2;refine Int.emod_eq_zero_of_dvd ⟨s*q1+i*q2,?_⟩;rw[e1,e2,Int.mul_add,Int.mul_left_comm s,Int.mul_left_comm i]
theorem J0 (hi1:HI H1 held1 s1)(hp:HI H held s0)(ht:H1.tb=H.tb){al base:Int}(h256:256%al=0)(me:qD H size al H1 base 0):base%al=0:=by
 rcases me with⟨h,_⟩|⟨_,hm,_,cl,hl,hcl⟩
 ·exact absurd rfl h
 have y:(base,((base,(oP H.tb size al).1,cl,X9 H1.bY base):Bk))∈H1.live:=by rw[hl];exact KK (Cu _)
 obtain⟨_,p,B,_,D,x,_,_⟩:=hi1.lv _ y;obtain⟨A,C,hd⟩:=hi1.wi.hf p B;simp only at D x;rcases hd with⟨q1,_,r,_,q2,_⟩|⟨j,c,q1,q2,_,q3,_⟩
 ·rw[←x,q2];have:((r.1*256:Nat):Int)=(r.1:Int)*256+0*0:=by omega
  rw[this];exact Jv h256 aA
 ·rcases hcl with⟨k,rfl,hk⟩|⟨rfl,_⟩
  ·have m:j=k:=by omega
   subst m;obtain⟨G,d,_,b⟩:=FU hk;have e:A.tb=H1.tb:=hi1.wi.tb _ A C;rw[e,ht,d]at q2;cases q2;obtain⟨w,F,a,z⟩:=q3;have g:=(hi1.wi.ga _ A C).cG _ _ _ a;have u:w=c:=by
    have:=a.1;rw[e,ht,d]at this;exact(Option.some.inj this).symm
   subst u;obtain⟨_,s,i,_,_,E,_⟩:=(V3 g).1 z;rw[←x,E];have:((at_ w s i:Nat):Int)=(s.st:Int)*256+(i:Int)*(w.size:Int):=by unfold at_;simp
   rw[this];exact Jv h256 b
  ·omega
theorem Px {al:Int}(h1:1<=al)(h2:al<=256)(hp:eW al=true):256%al=0/\(al<16->16%al=0):=by
 obtain⟨al,rfl⟩:=zc (show 0<=al by omega);rw[Vu]at hp;have key:∀a:Nat,a<=256->1<=a->(a &&& (a-1)=0)->256%a=0/\(a<16->16%a=0):=by decide +kernel
 have:=key al O O (by have:=U8 (a:=al) O O;rw[hp]at this;simpa using this);exact⟨by rw[show(256:Int)=((256:Nat):Int)from rfl,←Int.natCast_emod,this.1];rfl,λh=>by rw[show(16:Int)=((16:Nat):Int)from rfl,←Int.natCast_emod,this.2 O];rfl⟩
theorem NH {al:Int}(h1:1<=al)(h2:al<=256)(hp:eW al=true):256%zA al=0/\zA al%al=0:=by
 have:=Px h1 h2 hp;unfold zA;split
 ·exact⟨by decide,this.2 O⟩
 ·exact⟨this.1,by simp⟩
structure AL (H:Hw) (x:Gu) (ad:List Int) (la:List T3):Prop where
 g:eT H x
 n0:0<=x.no
 nl:(x.kn.length:Int)<=x.no/\(ad.length:Int)<=x.no
 lq:la.map (λa=>(a.1,a.2.1,zA a.2.2))=x.kn.map (λe=>(e.1,e.2.2.1,e.1-e.2.2.2.1))
 ok:∀a∈la,mF a.2.1 a.2.2=true/\a.1%a.2.2=0
 dq:∀a∈ad,(bU x.kn a).isSome=true\/bU x.fr a=some true
 th:1<=H.cf.threads
theorem AL.out (al:AL H x ad la)(hi:HI H held s0)(cf:lO H)(o:nJ H x d a H' x' e add del):AL H' x' (ad++add.toList) (Nf d add del a la)/\x'.no<=x.no+1/\∀k∈x.kn,¬(k.1<=a/\a<k.1+ZJ k.2.2.1)->Kept H x H' x' k:=by
 have g:=al.g;have F:ad++(none:Option Int).toList=ad:=by simp
 cases o with
 | same e U=>rw[F];exact⟨al,O,λk j _=>⟨j,λ_ _=>rfl⟩⟩
 | full j y r E op hl=>
  rw[F];obtain⟨w,B⟩:=g.same hi op hl;exact⟨⟨w,al.n0,al.nl,al.lq,al.ok,al.dq,by rw[op.kp.2.1];exact al.th⟩,O,λk j _=>B k j⟩
 | fC j gr E op=>
  rename_i b H1;obtain⟨Q,s1,D⟩:=op.hi;obtain⟨w,S,W,_,_⟩:=g.fC hi gr op D;have A:=gr.ok;unfold mF at A;rw[zE,zU]at A;obtain⟨⟨_,_,k3,k4⟩,kp⟩:=A;obtain⟨J,P⟩:=NH k3 k4 kp;have N:=J0 D hi op.kp.1 J gr.me;have C:(x.fC b).no=x.no+1:=rfl;have L:(x.fC b).fr=x.fr:=rfl;refine⟨⟨w,by have:=al.n0;omega,⟨?_,?_⟩,?_,λq u=>?_,λz p=>?_,by show 1<=H1.cf.threads;rw[op.kp.2.1];exact al.th⟩,O,λk j _=>W k j⟩
  ·rw[S,C,zM];have:=al.nl.1;simp;omega
  ·rw[C,zM];have:=al.nl.2;simp;omega
  ·show(la++[(b.1,d.a,d.b)]).map _=_;rw[S,jU,jU,al.lq]
   congr 1
   simp only[zS,rp,gr.s];have:=gr.a
   congr 3
   omega
  ·rcases zK.1 (show q∈la++[(b.1,d.a,d.b)]from u)with u|u
   ·exact al.ok q u
   ·rw[zP]at u;subst u;refine⟨gr.ok,?_⟩;show b.1%d.b=0;obtain⟨q1,e1⟩:=yp N;obtain⟨q2,e2⟩:=yp P;refine Int.emod_eq_zero_of_dvd ⟨q2*q1+q2,?_⟩;rw[gr.a,e1,Int.mul_add,←Int.mul_assoc,←e2]
  ·have K:(x.fC b).kn=dB x.kn b.1 b:=rfl;rw[K,L,UO];rcases zK.1 p with p|p
   ·split
    ·exact .inl rfl
    ·exact al.dq z p
   ·simp only[r9,zP]at p;subst p;rw[zC rfl];exact .inl rfl
 | wT j hm hf E op fe=>
  rename_i b e;rw[F];have G:QU H d.th=0:=by
   by_cases h:QU H d.th=0
   ·exact h
   ·unfold mf at hf;rw[zC h]at hf;exact absurd hf h
  obtain⟨w,B⟩:=g.free hi hm E op fe G cf.2.1;have y:(x.gone a).kn=cT x.kn a:=rfl;have M:(x.gone a).fr=dB x.fr a true:=rfl;refine⟨⟨w,al.n0,⟨?_,al.nl.2⟩,?_,λq u=>al.ok q (zI.1 u).1,λz p=>?_,by rw[op.kp.2.1];exact al.th⟩,by show x.no<=_;omega,λk j r=>B k j λh=>r ?_⟩
  ·rw[y];have Y:=pd (λq:Int×B5=>!(q.1==a)) x.kn;have Z:=al.nl.1;show((x.kn.filter _).length:Int)<=x.no;omega
  ·show(la.filter λq=>!(q.1==a)).map _=(x.kn.filter λq=>!(q.1==a)).map _;have e1:(la.filter λq=>!(q.1==a)).map (λa=>(a.1,a.2.1,zA a.2.2))=(la.map λa=>(a.1,a.2.1,zA a.2.2)).filter λq=>!(q.1==a):=by rw[wW];rfl
   have e2:(x.kn.filter λq=>!(q.1==a)).map (λe=>(e.1,e.2.2.1,e.1-e.2.2.2.1))=(x.kn.map λe=>(e.1,e.2.2.1,e.1-e.2.2.2.1)).filter λq=>!(q.1==a):=by rw[wW];rfl
   rw[e1,e2,al.lq]
  ·rw[y,M,AB,UO];by_cases h:z=a
   ·rw[zC h,zC h];exact .inr rfl
   ·rw[zB h,zB h];exact al.dq z p
  ·have m:=g.i k j;have X:=m.2.s;have E:=Z0 (n:=k.2.2.1) O;omega
 | wrote j wd=>
  rw[F];rcases wd with⟨h,_⟩|⟨k,j,hin,h8,_⟩
  ·cases h
  ·have m:=g.i k j;obtain⟨R,V⟩:=hin;have p:a∈Yb k.2:=eT.kJ m.2 R V h8;obtain⟨w,B,_⟩:=g.write hi j p (v:=d.va);refine⟨⟨w,al.n0,al.nl,al.lq,al.ok,al.dq,al.th⟩,O,λe U r=>B e U λh=>r ?_⟩;subst h;exact⟨by rw[m.1];exact R,by rw[m.1];exact V⟩
variable {Qa Ql:Rg}{addrs ls:Sl}
end Go.Ar
namespace Go.Ar
open Go Go.Vc Go.Proofs Go.RowKit Go.Maps Go.Sort Go.Shelf
open Go.Vc (bU dB cT)
open Go.Bu (kS HJ V1 Hz Vx xY)
variable {U σ0 v w w':Hp}{F P Q X T:Rg}{L:dH}{H H' H1:Hw}{held:List Pc}{s0 sp:Sp}{t n:Nat}{gb km fm m:Nat}{x y:Gu}{b:B5}
def Gw:Nat:=Tryz.ib.f 10
def Df:Nat:=Tryz.ib.t 23
theorem RV (m:Option Nat){R:Fv->Hp->Prop}(hR:R ⟨Gw,#[],#[.pointer (some ⟨U.size,0,none⟩)]⟩ (U.push (.cells #[.map m] Df (0,0)))) :
 Zu.c m U R:=by
 rintro w rfl;refine(callsIn_wide.1 (AnyZI.keys_in Tryz.kO Fence.wide 5 trivial rfl m w)).mono ?_;rintro e a ⟨rfl,rfl⟩;exact⟨⟨rfl,rfl,rfl,sC (by show _<(w.heap.push _).size;simp)⟩,[.func (.func Gw) #[] #[.pointer (some ⟨w.heap.size,0,none⟩)]],rfl,⟨Gw,#[],#[.pointer (some ⟨w.heap.size,0,none⟩)]⟩,rfl,hR⟩
theorem O4 {w:World}{c m:Nat}{B:List (Int×B5)}(hc:cell w.heap ⟨c,0,none⟩=some (.map (some m)))(hm:dJ w.heap m .i64 (.ag 5) B)(hb:∀x∈B,Go.Bu.ku x.1)(hs:B.length<=1000000)(n:Nat)(hn:1<=n) :
 SeqGives Fence.wide n Tryz.prog Gw #[.pointer (some ⟨c,0,none⟩)] encZ (λss=>ss.Perm (B.map (·.1))) B.length w:=by
 obtain⟨D,d,i,a⟩:=Vx (P:=Tryz.prog) Tryz.kO.t26 hm hb hs;have b:c<w.heap.size:=by
  unfold cell at hc;split at hc
  ·rename_i h;exact(jP.1 h).1
  ·cases hc
 have:=AnyZI.keys_gives (ρ:=Tryz.ib) {Tryz.kO with} Fence.wide n trivial rfl hn c m B.length D w b hc d;intro l J W hW hJ hY h0;rw[a]at this;refine(this l J W hW hJ hY h0).mono ?_;rintro e W' ⟨g,ss,p,j⟩;exact⟨g,ss,p.trans i,j⟩
theorem TP {c m:Nat}{B:List (Int×B5)}(hc:cell U ⟨c,0,none⟩=some (.map (some m)))(hm:dJ U m .i64 (.ag 5) B)(hb:∀x∈B,Go.Bu.ku x.1)(hs:B.length<=1000000){R:Sl->Hp->Prop}
 (hR:∀(s:Sl) (σ':Hp) (ss:List Int),bL U σ'->ss.Perm (B.map (·.1))->ss.Pairwise (· <= ·)->kS U.size σ' s (ss.map (Value.int .i64))->R s σ') :
 VY.c ⟨Gw,#[],#[.pointer (some ⟨c,0,none⟩)]⟩ U R:=by
 rintro w rfl;have g:=O4 hc hm hb hs 2 O;have j:B.length<=maxLen:=by unfold maxLen;omega
 have u:=AnyZI.sorted_in Tryz.q8 Fence.wide 5 trivial trivial trivial trivial rfl O (xY _) (Tryz.px.f5.enters rfl) Gw #[.pointer (some ⟨c,0,none⟩)] trivial (Tryz.kO.f10.enters rfl) _ _ j O _ g;refine(callsIn_wide.1 u).mono ?_;rintro e A ⟨v,ss,rfl,z,i,r,d⟩;obtain⟨s,rfl,p⟩:=HJ i;refine⟨Hz d,[.slice s.a s.len s.cap],rfl,s,rfl,?_⟩;refine hR s _ (ss.mergeSort λx y=>decide (x<=y)) (V1 d) ((List.mergeSort_perm _ _).trans z) ?_ p;have:=List.pairwise_mergeSort (le:=λx y:Int=>decide (x<=y)) (λa b c C D=>by simp at *;omega) (λa b=>by simp;omega) ss;exact this.imp (λh=>by simpa using h)
structure xJ (x:Gu) (es:List (Int×B5)):Prop where
 p:es.Perm x.kn
 s:es.Pairwise λa b=>a.1<b.1
def b4 (e:Int×B5):Bk:=(e.2.1,e.2.2.1,e.2.2.2.1,e.2.2.2.2.1)
theorem Mh (p:GP σ0 U L H held s0 P gb km fm x)(xi:∀e∈x.kn,e.1=e.2.1/\ie e.2)(hl:x.kn.length<=1000000){R:Sl->Hp->Prop}(hR:∀s σ' es,bL U σ'->xJ x es->bS s 4 (jl (es.map b4)) σ' (λb=>U.size<=b)->R s σ'):Y3.c (aW gb) U R:=by
 refine Y3.o ?_;unfold Y3.v;have B:∀e∈x.kn,Go.Bu.ku e.1:=λe g=>by
  have h:=xi e g;have M:=h.1;have N:=h.2.z;have h3:=h.2.base;have h4:=h.2.t;have h5:=h.2.m;have h6:=h.2.s;have Y:=Z0 (n:=e.2.2.1) O;unfold Go.Bu.ku;omega
 have j:=p.m.nodup;refine UY p (cE rfl (aG (p.b.rM rfl (RV _ ?_))));have e1:bL U (U.push (.cells #[.map (some km)] Df (0,0))):=Ext.push _ _ _;have p1:=p.fr e1;refine TP (by unfold cell;simp) p1.m B hl λs u d e2 Q A hs=>?_;have S:=e1.trans e2;have G:=cV.ug hs;have E:d.Nodup:=Q.nodup_iff.2 j;have V:d.length=x.kn.length:=by rw[Q.length_eq];simp
 have hsl:s.len=d.length:=by have:=G.1;simp at this;omega
 let f:Int->Int×B5:=λk=>(k,(bU x.kn k).getD (0,0,0,0,0))
 have D:∀e∈x.kn,f e.1=e:=λe g=>by
  show(e.1,(bU x.kn e.1).getD (0,0,0,0,0))=e;rw[QG j (show(e.1,e.2)∈x.kn from g)];rfl
 have hz1:U.size<u.size:=by
  have M:=e2.1;have N:(U.push (.cells #[.map (some km)] Df (0,0))).size=U.size+1:=by simp
  omega
 refine Us (a:=.s) (bb:=bO) (λ(out:Sl) (z:Int) w=>∃i:Nat,z=i/\i<=d.length/\bL u w/\bS out 4 (jl (((d.take i).map f).map b4)) w (λb=>u.size<=b)) (λ_ z _=>d.length-z.toNat) ⟨0,rfl,O,Ext.refl _ _,⟨by simp[jl],.inl ⟨rfl,rfl⟩⟩⟩ ?_;rintro(out:Sl) (z:Int) w ⟨i,rfl,hil,ew,hr⟩;have Y:=p1.fr (e2.trans ew);refine cQ (λhlt=>?_) λhge=>?_
 ·have hx:d[i]?=some (d[i]' O):=cX _;have hol:out.len=i:=by have:=hr.1;rw[Cb]at this;simp at this;omega
  have C:(d[i]' O)∈x.kn.map (·.1):=Q.mem_iff.1 (ka _);obtain⟨e,g,K⟩:=zF.1 C;have X:f (d[i]' O)=e:=by rw[←K];exact D e g
  refine(aH.bP (aH.cut G) ew).mi hx (aG (Y.b.rM rfl ⟨x.kn,Y.m,?_⟩));have y:bU x.kn (d[i]' O)=some e.2:=by rw[←K];exact QG j (show(e.1,e.2)∈x.kn from g)
  rw[y];refine hr.push (F:=λb=>u.size<=b) (vs:=lu (b4 e)) (λb J=>by have:=ew.1;omega) rfl rfl (by simp[lu,dR]) O O λs' w' ab W Z=>?_;have e3:bL u w':=Ext.fresh ew W λb J=>J;refine cS (m:=i+1) O O ⟨⟨i+1,rfl,O,e3,?_⟩,O⟩;have:jl (((d.take (i+1)).map f).map b4)=jl (((d.take i).map f).map b4)++lu (b4 e):=by
   unfold jl;rw[ko,hx,jU,jU,List.flatMap_append];simp only[r9,zS,rp,qm,List.flatMap_nil,lC,X]
  rw[this];exact Z
 ·have aa:i=d.length:=by omega
  subst aa;rw[l0]at hr;have r:(d.map f).Perm x.kn:=by
   have M:=Q.map f;rw[lB]at M;have N:x.kn.map (f∘λe=>e.1)=x.kn:=by
    conv=>rhs;rw[←uJ x.kn]
    exact ke λe g=>D e g
   rwa [N]at M
  refine hR out w (d.map f) (S.trans ew) ⟨r,?_⟩ (aI.mono hr λb _ J=>by
   show U.size<=b;have J:u.size<=b:=J;omega)
  rw[sB];exact(A.and E).imp λ{a b} ⟨M,N⟩=>by
   have h3:a≠b:=N;show a<b;omega
end Go.Ar
namespace Go.Proofs
open Go.Vc
set_option maxRecDepth 100000
def Wx.h:Hn:=.q .o1 (.q (.q .o3 .aK) (.q .o7 (.q (.q .o6 (.k (.loop [(20,.I)] (.q .o1 (.q (.c .l .l) (.q (.k (.q .o6 .o6)) .o2)))))) .aL)))
def Wx.v (a:R2)(b:Hp)(c:Sl->Hp->Prop):Prop:=Wf.c a b λd e=>If (!d) (c ⟨none,0,0⟩ e) (bF a 3 e λg=>Mk ((g.len:Nat):Int) ((g.len:Nat):Int) 8 3 [.I 0] e λh i=>bF a 3 i λk=>Ya [bO] (λl=>l 0 i) λm (n:Int) o=>If (n<((k.len:Nat):Int)) (Ix k.a k.len n 2 λp=>aQ p 0 o λq=>aQ p 1 o λr=>aV #[.I 0,.I 0] 101 o λs t=>aR s 0 (.I q) t λu=>aR s 1 (.I r) u λv=>aQ s 0 v λw=>Ix h.a h.len n 1 λx=>dU x (.I w) v λy=>bM (n+1) λz=>m z y) (c h o))
theorem Wx.o {a b c}(d:Wx.v a b c):Wx.c a b c:=Wa Tryz.func16 (x:=Wx.h) (R0 d)
def Wq.h:Hn:=.q .o1 (.q (.q .o3 .aK) (.q .o1 (.q (.q .o6 (.k (.loop [(3,.I),(14,.I)] (.q .o1 (.q (.c .l .l) (.q (.k (.q .o4 .o5)) .o2)))))) .aL)))
def Wq.v (a:R2)(b:Hp)(c:aN):Prop:=Wf.c a b λd e=>If (!d) (c 0 e) (bF a 3 e λg=>Ya [bO,bO] (λh=>h 0 0 e) λi (j:Int) (k:Int) l=>If (k<((g.len:Nat):Int)) (Ix g.a g.len k 2 λm=>aQ m 0 l λn=>aQ m 1 l λo=>aV #[.I 0,.I 0] 101 l λp q=>aR p 0 (.I n) q λr=>aR p 1 (.I o) r λs=>aQ p 1 s λt=>bM (j+t) λu=>bM (k+1) λv=>i u v s) (c j l))
theorem Wq.o {a b c}(d:Wq.v a b c):Wq.c a b c:=Wa Tryz.func18 (x:=Wq.h) (R0 d)
def Wl.h:Hn:=.q .o2 (.q (.q .o3 .aJ) (.q (.o 12) .l))
def Wl.v (a:R2)(b c d:Int)(e:Hp)(f:Int->Int->Hp->Prop):Prop:=Wf.c a e λg h=>If (!g) (f 0 5 h) (bG a 0 h λj=>X2.c j b c d h λk l m=>f k l m)
theorem Wl.o {a b c d e f}(g:Wl.v a b c d e f):Wl.c a b c d e f:=Wa Tryz.func21 (x:=Wl.h) (R0 g)
def WY.h:Hn:=.q .o1 (.q (.q .o3 .aK) (.q .o5 .l))
def WY.v (a:R2)(b:Hp)(c:Option Addr->Hp->Prop):Prop:=Wf.c a b λd e=>If (!d) (c none e) (bG a 0 e λg=>c g e)
theorem WY.o {a b c}(d:WY.v a b c):WY.c a b c:=Wa Tryz.func23 (x:=WY.h) (R0 d)
def Wt.h:Hn:=.q .o1 (.q (.q .o3 .aK) (.q .o7 (.q .o6 .aL)))
def Wt.v (a:R2)(b:Hp)(c:Sl->Hp->Prop):Prop:=Wf.c a b λd e=>If (!d) (c ⟨none,0,0⟩ e) (bF a 4 e λg=>Mk ((g.len:Nat):Int) ((g.len:Nat):Int) 16 62 [.I 0,.I 0] e λh i=>bF a 4 i λk=>rR h 2 k i λl m=>c h m)
theorem Wt.o {a b c}(d:Wt.v a b c):Wt.c a b c:=Wa Tryz.func27 (x:=Wt.h) (R0 d)
def WB.h:Hn:=.q .o2 (.q (.q .o4 (.q .o2 (.c (.q .o3 .l) .l))) (.q .o6 (.q (.k (.loop [] (.q (.q .o6 (.c .l .l)) (.k .o3)))) (.q .o3 .l))))
def WB.v (a:R2)(b:Int)(c:Hp)(d:Int->Int->Hp->Prop):Prop:=Wv.c a b c λe f=>If (e != 0) (d 0 e f) (bF a 3 f λh=>Ya [] (λi=>i f) λj k=>bF a 3 k λm=>If (((m.len:Nat):Int)>0) (WG.c a b k λn=>j n) (d ((h.len:Nat):Int) 0 k))
theorem WB.o {a b c d}(e:WB.v a b c d):WB.c a b c d:=Wa Tryz.func30 (x:=WB.h) (R0 e)
def Wj.h:Hn:=.q .o1 (.q (.q .o4 (.q .o2 .aJ)) (.q (.q .o3 .aK) (.q .o9 (.q (.q .o2 (.c (.q .o8 .l) .l)) (.q (.o 11) (.q (.q .o2 .aJ) (.q (.q .o3 .aK) (.q (.q .o4 (.k (.loop [(56,.I)] (.q .o1 (.q (.c .l .l) (.q (.k (.q .o3 .o7)) .o2)))))) (.q (.cW (.held true [13] (.tk [0,1,2,3,4,5,6,7,8] (.all [(9,.all [(10,.take 11 (.take 12 (.all [(13,.done)])))])])))) (.q (.k (.loop [] (.q (.q (.cW (.gH true [] [(99,.one .b)] (.take 0 (.take 1 (.take 2 (.take 3 (.take 4 (.take 5 (.take 6 (.take 7 (.take 8 (.take 9 (.take 10 (.split 91 (.take 11 (.take 12 (.take 13 (.take 14 (.take 15 (.take 16 (.take 17 (.take 18 (.done))))))))) (.take 11 (.take 13 (.take 14 (.take 15 (.take 16 (.all [(12,.take 17 (.take 18 (.done)))])))))))))))))))))))) (.c .l .l)) (.k .o3)))) .aM))))))))))
def Wj.v (a:R2)(b c:Int)(d:Hp)(e:aN):Prop:=Wv.c a b d λf g=>If (f != 0) (e f g) (WP.c a c g λh i=>If h (e 9 i) (WF.c a c i λj k l m n o=>aV #[.I 0,.I 0,.I 0,.I 0] 48 o λp q=>aR p 0 (.I j) q λr=>aR p 1 (.I k) r λs=>aR p 2 (.I l) s λt=>aR p 3 (.I m) t λu=>If (!n) (bG a 0 u λw=>Y8.c w b c u λx y=>e x y) (bG a 0 u λaa=>XU.c aa c u λab ac ad=>If (ac != 0) (e ac ad) (If (((ab.len:Nat):Int)>0) (e 10 ad) (aQ p 0 ad λae=>aQ p 1 ad λaf=>aQ p 2 ad λag=>aQ p 3 ad λah=>XP.c ae af ag ah ad λai aj=>Ya [bO] (λak=>ak 0 aj) λal (am:Int) an=>If (am<((ai.len:Nat):Int)) (Ix ai.a ai.len am 1 λao=>bN ao an λap=>bG a 0 an λar=>W4.c ar an λau av=>XH.c au ap (-1234567) av λaw ax=>bM (am+1) λay=>al ay ax) (dZ an λaz=>bX a λa0=>aT az a0 3 λa1=>aS az p 1 λa2=>aV #[.I c,.I a2] 101 an λa3 a4=>And (az a4) <| App a1 2 16 101 [.I 0,.I 0] ⟨some a3,1,1⟩ a4 λa5 a6=>And (az a6) <| bX a λa7=>aR a7 3 (.slice a5.a a5.len a5.cap) a6 λa8=>Ya [] (λa9=>a9 a8) λba bb=>Jn [.b] (λ(bc:Bool) bd=>If bc (WG.c a b bd λbe=>ba be) (e 0 bd)) λbf=>dZ bb λbg=>bX a λbh=>aT bg bh 3 λbi=>bX a λbj=>aS bg bj 1 λbk=>If (((bi.len:Nat):Int)>bk) (bf true bb) (bX a λbl=>
 aS bg bl 2 λbm=>Wq.c a bb λbn bo=>And (bg bo) <| bf (decide (bn>bm)) bo)))))))
theorem Wj.o {a b c d e}(f:Wj.v a b c d e):Wj.c a b c d e:=Wa Tryz.func34 (x:=Wj.h) (R0 f)
def X5.h:Hn:=.q .o2 (.q (.q (.cW (.seq [.op,.op,.op,.op,.cR false 2 [.op,.op],.op,.cR false 2 [.op,.op],.op,.cR false 2 [.op,.op],.op,.cR false 2 [.op,.op]])) .aJ) (.q .o7 .l))
def X5.v (a:R2)(b c:Int)(d:Hp)(e:Option Addr->Int->Hp->Prop):Prop:=W4.c a d λf g=>bV (λh i=>bV (λj k=>bV (λl m=>bV (λn o=>If n (e none 1 o) (aV #[.pointer a,.I b,.I c,.slice none 0 0,.slice none 0 0] 71 o λp q=>e (some p) 0 q)) λr=>If l (r true m) (r (decide (c>16384)) m)) λs=>If j (s true k) (s (decide (c<0)) k)) λt=>If h (t true i) (t (decide (b>64)) i)) λu=>If f.isNone (u true g) (u (decide (b<0)) g)
theorem X5.o {a b c d e}(f:X5.v a b c d e):X5.c a b c d e:=Wa Tryz.func36 (x:=X5.h) (R0 f)
def Wy.h:Hn:=.q .o2 (.q (.q .o3 .aJ) (.q (.q .o3 .aJ) (.q .fZ .l)))
def Wy.v (a:R2)(b:Int)(c:Hp)(d:Int->Int->Hp->Prop):Prop:=Wf.c a c λe f=>If (!e) (d 0 5 f) (WL.c a b f λg h=>If g (d 0 9 h) (bG a 0 h λj=>Y4.c j b h λk l m=>d k l m))
theorem Wy.o {a b c d}(e:Wy.v a b c d):Wy.c a b c d:=Wa Tryz.func37 (x:=Wy.h) (R0 e)
def WZ.h:Hn:=.q .o1 (.q (.q .o3 .aK) (.q (.q .o3 .aK) (.q .o8 .l)))
def WZ.v (a:R2)(b c:Int)(d:Hp)(e:aN):Prop:=Wf.c a d λf g=>If (!f) (e 5 g) (WL.c a b g λh i=>If h (e 9 i) (bG a 0 i λk=>HT.c k b c i λl m=>e l m))
theorem WZ.o {a b c d e}(f:WZ.v a b c d e):WZ.c a b c d e:=Wa Tryz.func40 (x:=WZ.h) (R0 f)
def WX.h:Hn:=.q .o1 (.q (.q .o3 .aK) (.q .o8 .l))
def WX.v (a:R2)(b:Hp)(c:Option Addr->Hp->Prop):Prop:=Wf.c a b λd e=>If (!d) (c none e) (bG a 0 e λg=>HR.c g e λh i=>W6.c a h i λj k=>c j k)
theorem WX.o {a b c}(d:WX.v a b c):WX.c a b c:=Wa Tryz.func41 (x:=WX.h) (R0 d)
def W6.h:Hn:=.q .o1 (.q (.q (.cW (.seq [.op,.op,.op,.op,.cR false 3 (RI.ops 3)])) .aK) (.q (.cW (.held true [] (.tk [0,1,2,3,4,5,6,7,8,9,10,11,12,14,15,16,17] (.all [(13,.all [(18,.take 19 (.all [(20,.take 21 (.done))]))])])))) .l))
def W6.v (a b:R2)(c:Hp)(d:Option Addr->Hp->Prop):Prop:=Wf.c a c λe f=>bV (λg h=>If g (d none h) (dZ h λi=>bX a λj=>aS i j 1 λk=>bX a λl=>aS i l 2 λm=>bX a λn=>aT i n 3 λo=>bX a λp=>aT i p 4 λq=>Wh.c o h λr s=>And (i s) <| Kv.c q s λt u=>And (i u) <| aV #[.pointer b,.I k,.I m,.slice r.a r.len r.cap,.slice t.a t.len t.cap] 71 u λv w=>And (i w) <| d (some v) w)) λx=>If (!e) (x true f) (W4.c b f λy z=>x y.isNone z)
theorem W6.o {a b c d}(e:W6.v a b c d):W6.c a b c d:=Wa Tryz.func42 (x:=W6.h) (R0 e)
def Wf.h:Hn:=.q .o1 (.q (.cW (.seq [.op,.op,.op,.cR true 5 (RI.ops 5),.op])) .l)
def Wf.v (a:R2)(b:Hp)(c:aO):Prop:=bV (λd e=>c d e) λf=>If (!a.isNone) (bG a 0 b λh=>f (!h.isNone) b) (f false b)
theorem Wf.o {a b c}(d:Wf.v a b c):Wf.c a b c:=Wa Tryz.func55 (x:=Wf.h) (R0 d)
def Wv.h:Hn:=.q .o1 (.q (.q .o3 .aK) (.q .o6 (.q (.q (.cW (.seq [.op,.op,.op,.cR false 5 (RI.ops 5)])) .aK) (.q (.q .o4 .aK) .aM))))
def Wv.v (a:R2)(b:Int)(c:Hp)(d:aN):Prop:=Wf.c a c λe f=>If (!e) (d 5 f) (bG a 0 f λh=>W4.c h f λi j=>bV (λk l=>If k (d 1 l) (YR.c i b l λm n=>If (!(m.toList==(ByteArray.mk #[]).toList)) (d 5 n) (d 0 n))) λo=>If (b<0) (o true j) (XR.c i j λp q r s t u=>o (decide (b≥r)) u))
theorem Wv.o {a b c d}(e:Wv.v a b c d):Wv.c a b c d:=Wa Tryz.func63 (x:=Wv.h) (R0 e)
def WG.h:Hn:=.q .o8 (.q .fZ (.q .fZ (.q (.q .o2 (.c .l .l)) (.q (.cW (.held true [6] (.tk [0,1,2,3,4,5] (.all [(6,.tk [7,8,9,10,11] (.done))])))) (.q (.q .o2 (.c .l .l)) (.q (.q .o4 (.k (.loop [(7,.one .s),(52,.I)] (.q .o1 (.q (.c .l .l) (.q (.k (.q .o3 (.q (.o 12) (.q (.cW (.seq [.op,.op,.op,.cR false 2 [.op,.op]])) (.c .o5 .l))))) .o2)))))) (.kj [] (.q .o3 (.c (.cW (.held true [14] (.tk [0,1,2,3,4,5,6,7] (.all [(8,.take 9 (.all [(10,.all [(11,.take 12 (.take 13 (.all [(14,.done)])))])]))])))) .l)) (.cW (.tail 7 (RI.ops 7) [.op])))))))))
def WG.v (a:R2)(b:Int)(c:Hp)(d:aP):Prop:=bF a 3 c λf=>Ix f.a f.len 0 2 λg=>aQ g 0 c λh=>aQ g 1 c λi=>aV #[.I 0,.I 0] 101 c λj k=>aR j 0 (.I h) k λl=>aR j 1 (.I i) l λm=>bF a 3 m λo=>fo o 2 1 (o.len:Nat) (o.cap:Nat) λp=>Wh.c p m λq r=>bX a λs=>aR s 3 (.slice q.a q.len q.cap) r λt=>aQ j 0 t λu=>WF.c a u t λv w x y z aa=>aV #[.I 0,.I 0,.I 0,.I 0] 48 aa λab ac=>aR ab 0 (.I v) ac λad=>aR ab 1 (.I w) ad λae=>aR ab 2 (.I x) ae λaf=>aR ab 3 (.I y) af λag=>If (!z) (d ag) (dZ ag λah=>bX a λai=>aU ah ai 0 λaj=>aS ah j 0 λak=>XU.c aj ak ag λal am an=>If (am != 0) (d an) (aQ ab 0 an λao=>aQ ab 1 an λap=>aQ ab 2 an λaq=>aQ ab 3 an λar=>XP.c ao ap aq ar an λau av=>Ya [.s,bO] (λaw=>aw al 0 av) λax (ay:Sl) (az:Int) a0=>If (az<((au.len:Nat):Int)) (Ix au.a au.len az 1 λa1=>bN a1 a0 λa2=>bG a 0 a0 λa4=>W4.c a4 a0 λa5 a6=>YD.c a5 a2 a6 λa7 a8 a9=>bV (λba bb=>If ba (aV #[.I a2] 3 bb λbc bd=>App ay 1 8 3 [.I 0] ⟨some bc,1,1⟩ bd λbe bf=>bM (az+1) λbg=>ax be bg bf) (bM (az+1) λbh=>ax ay bh bb)) λbi=>If (a8 != 0) (bi true a9) (bi (a7 != (-1234567)) a9)) (Jn [] (λbj=>bG a 0 bj λbl=>aQ j 0 bj λbm=>
 Zb.c bl b bm bj λbn bo=>d bo) λbp=>If (((ay.len:Nat):Int)>0) (dZ a0 λbq=>bX a λbr=>aT bq br 4 λbs=>aS bq j 0 λbt=>W8.c ay a0 λbu bv=>And (bq bv) <| aV #[.I bt,.I bu] 62 bv λbw bx=>And (bq bx) <| App bs 2 16 62 [.I 0,.I 0] ⟨some bw,1,1⟩ bx λbz b0=>And (bq b0) <| bX a λb1=>aR b1 4 (.slice bz.a bz.len bz.cap) b0 λb2=>bp b2) (bp a0))))
theorem WG.o {a b c d}(e:WG.v a b c d):WG.c a b c d:=Wa Tryz.func64 (x:=WG.h) (R0 e)
def WP.h:Hn:=.q .o2 (.q .o7 .l)
def WP.v (a:R2)(b:Int)(c:Hp)(d:aO):Prop:=aV #[.I b] 3 c λe f=>bF a 3 f λh=>Wb.c h ⟨115,#[],#[.pointer (some e)]⟩ f λi j=>d i j
theorem WP.o {a b c d}(e:WP.v a b c d):WP.c a b c d:=Wa Tryz.func68 (x:=WP.h) (R0 e)
def WF.h:Hn:=.q .o2 (.q .o6 (.q .o8 (.q (.q .o2 (.c (.q .o3 .l) .l)) (.q .o6 .l))))
def WF.v (a:R2)(b:Int)(c:Hp)(d:Int->Int->Int->Int->Bool->Hp->Prop):Prop:=aV #[.I 0,.I 0,.I 0,.I 0] 48 c λe f=>bG a 0 f λh=>Y3.c h f λi j=>Wg.c i b ⟨117,#[],#[]⟩ j λk l m=>If (!l) (aR e 0 (.I 0) m λn=>aR e 1 (.I 0) n λo=>aR e 2 (.I 0) o λp=>aR e 3 (.I 0) p λq=>aQ e 0 q λr=>aQ e 1 q λs=>aQ e 2 q λt=>aQ e 3 q λu=>d r s t u false q) (Ix i.a i.len k 4 λv=>aQ v 0 m λw=>aQ v 1 m λx=>aQ v 2 m λy=>aQ v 3 m λz=>aR e 0 (.I w) m λaa=>aR e 1 (.I x) aa λab=>aR e 2 (.I y) ab λac=>aR e 3 (.I z) ac λad=>aQ e 0 ad λae=>aQ e 1 ad λaf=>aQ e 2 ad λag=>aQ e 3 ad λah=>d ae af ag ah true ad)
theorem WF.o {a b c d}(e:WF.v a b c d):WF.c a b c d:=Wa Tryz.func69 (x:=WF.h) (R0 e)
def XP.h:Hn:=.q .o2 (.q .o1 (.q (.q .o1 (.k (.loop [(3,.one .s),(4,.I)] (.q (.q .o4 (.c .l .l)) (.q (.k .o8) .o3))))) .aL))
def XP.v (a b c d:Int)(e:Hp)(f:Sl->Hp->Prop):Prop:=aV #[.I a,.I b,.I c,.I d] 48 e λg h=>Ya [.s,bO] (λi=>i ⟨none,0,0⟩ 0 h) λj (k:Sl) (l:Int) m=>aQ g 1 m λn=>If (l<n) (aQ g 0 m λo=>bM (o+l) λp=>aV #[.I p] 3 m λq r=>App k 1 8 3 [.I 0] ⟨some q,1,1⟩ r λs t=>bM (l+8) λu=>j s u t) (f k m)
theorem XP.o {a b c d e f}(g:XP.v a b c d e f):XP.c a b c d e f:=Wa Tryz.func72 (x:=XP.h) (R0 g)
def WL.h:Hn:=.q .o3 (.q .o7 .l)
def WL.v (a:R2)(b:Int)(c:Hp)(d:aO):Prop:=aV #[.pointer a] 33 c λe f=>aV #[.I b] 3 f λg h=>fS e h λi=>bF i 3 h λk=>Wb.c k ⟨121,#[],#[.pointer (some e),.pointer (some g)]⟩ h λl m=>d l m
theorem WL.o {a b c d}(e:WL.v a b c d):WL.c a b c d:=Wa Tryz.func75 (x:=WL.h) (R0 e)
def W5.h:Hn:=.q .o2 (.q .o5 .l)
def W5.v (a b:Int)(c:Addr)(d:Hp)(e:aO):Prop:=aV #[.I a,.I b] 101 d λf g=>aQ f 0 g λh=>bN c g λi=>e (h==i) g
theorem W5.o {a b c d e}(f:W5.v a b c d e):W5.c a b c d e:=Wa Tryz.func115 (x:=W5.h) (R0 f)
def WU.h:Hn:=.q .o2 (.q .o5 .l)
def WU.v (a b c d e:Int)(f:Hp)(g:aN):Prop:=aV #[.I a,.I b,.I c,.I d] 48 f λh i=>aQ h 0 i λj=>bM (j-e) λk=>g k i
theorem WU.o {a b c d e f g}(h:WU.v a b c d e f g):WU.c a b c d e f g:=Wa Tryz.func117 (x:=WU.h) (R0 h)
def WV.h:Hn:=.q .o2 (.q .fZ (.q (.cW (.gH true [] [(4,.one .b)] (.take 0 (.take 1 (.split 15 (.take 2 (.take 4 (.all [(3,.all [(5,.take 6 (.take 7 (.done)))])]))) (.take 2 (.take 3 (.take 4 (.take 5 (.take 6 (.take 7 (.done)))))))))))) .l))
def WV.v (a b:Int)(c d:Addr)(e:Hp)(f:aO):Prop:=aV #[.I a,.I b] 101 e λg h=>fS c h λi=>aQ g 0 h λj=>WF.c i j h λk l m n o p=>aV #[.I 0,.I 0,.I 0,.I 0] 48 p λq r=>aR q 0 (.I k) r λs=>aR q 1 (.I l) s λt=>aR q 2 (.I m) t λu=>aR q 3 (.I n) u λv=>Jn [.b] (λ(w:Bool) x=>f w x) λy=>dZ v λz=>If o (aS z q 0 λaa=>aS z q 1 λab=>aS z q 2 λac=>aS z q 3 λad=>gE z bO d λ(ae:Int)=>XP.c aa ab ac ad v λaf ag=>And (z ag) <| WA.c af ae ag λah ai=>And (z ai) <| y ah ai) (y false v)
theorem WV.o {a b c d e f}(g:WV.v a b c d e f):WV.c a b c d e f:=Wa Tryz.func121 (x:=WV.h) (R0 g)
end Go.Proofs
namespace Go.Ar
open Go Go.Vc Go.Proofs
open Go.Vc (bU dB cT)
variable {U σ0 v w w':Hp}{F P Q X T:Rg}{L:dH}{H H' H1:Hw}{held:List Pc}{s0 sp:Sp}{t n:Nat}{gb km fm m:Nat}{x y:Gu}{b:B5}
abbrev P2:=Int×Int
def kY (e:P2):List Value:=[.int .i64 e.1,.int .i64 e.2]
def gL (l:List P2):List Value:=l.flatMap kY
theorem Ux (l:List P2):(gL l).length=l.length*2:=by
 induction l with
 | nil=>rfl
 | cons e l ih=>simp only[gL,qm,zM,zV,kY,lx]at *;omega
theorem AA:∀{l:List P2} {i:Nat} {e:P2},l[i]?=some e->∀{d:Nat},d<2->(gL l)[2*i+d]?=(kY e)[d]?
 | [],_,_,h,_,_=>by simp at h
 | y::l,0,e,h,d,hd=>by
  simp at h;subst h;have e1:gL (y::l)=kY y++gL l:=by simp[gL]
  have a:(kY y).length=2:=rfl;rw[e1,zd O];congr 1;omega
 | y::l,i+1,e,h,d,hd=>by
  have e1:gL (y::l)=kY y++gL l:=by simp[gL]
  have a:(kY y).length=2:=rfl;rw[e1,zm O,a,show 2*(i+1)+d-2=2*i+d by omega];exact AA (by simpa using h) hd
theorem FP:∀(l:List P2) (n:Nat),gL (l.drop n)=(gL l).drop (n*2)
 | l,0=>by simp
 | [],n+1=>by simp[gL]
 | y::l,n+1=>by
  have e1:gL (y::l)=kY y++gL l:=by simp[gL]
  have a:(kY y).length=2:=rfl;rw[uM,e1,FP l n,List.drop_append,CE (l:=kY y) O,a,show(n+1)*2-2=n*2 by omega,sH]
theorem Jc:∀(l:List P2),∀v∈gL l,dR v=true:=by
 intro l v a;simp only[gL,List.mem_flatMap,kY]at a;obtain⟨e,_,a⟩:=a;simp at a;rcases a with rfl|rfl<;>rfl
structure Qu where
 bl:Int
 by':Int
 q:List P2
 rs:List P2
def iJ (l:List P2):Int:=(l.map (·.2)).sum
structure sQ (q:Qu):Prop where
 bl:0<=q.bl/\q.bl<=64
 by':0<=q.by'/\q.by'<=16384
 ql:q.q.length<=66
 qs:∀e∈q.q,1<=e.2/\e.2<=1024
 rl:q.rs.length<=10000
def pT (q:Qu):Bool:=decide ((q.q.length:Int)>q.bl)||decide (iJ q.q>q.by')
theorem Tv (e:P2)(l:List P2):iJ (e::l)=e.2+iJ l:=by simp[iJ]
theorem SJ (l:List P2)(e:P2):iJ (l++[e])=iJ l+e.2:=by simp[iJ]
theorem Pm {l:List P2}(h:∀e∈l,1<=e.2/\e.2<=1024):0<=iJ l/\iJ l<=l.length*1024:=by
 induction l with
 | nil=>simp[iJ]
 | cons e l ih=>
  have b:=h e ni;have d:=ih λe a=>h e (mS _ a);rw[Tv,zV];omega
def DA (sp:Sp)(b:B5):List Int:=(Yb b).filter λz=>eO sp z != 0||Ka sp z != uW
def KO (H:Hw)(b:B5):List Int:=QC H.sp b++DA H.sp b
def mr:List Int->Int
 | []=>0
 | a::l=>l.foldl (λm z=>if z<m then z else m) a
inductive gS (thread:Int) (H:Hw) (x:Gu) (q:Qu):Hw->Gu->Qu->Prop where
 | none {e:P2} {r:List P2}:q.q=e::r->(bU x.kn e.1=none\/ly H x e.1≠0)->gS thread H x q H x {q with q:=r}
 | stay {e:P2} {r:List P2} {b:B5}:q.q=e::r->bU x.kn e.1=some b->ly H x e.1=0->mf H x thread e.1 false≠0->gS thread H x q H x ⟨q.bl,q.by',r,if KO H b=[]then q.rs else q.rs++[(e.1,mr (KO H b))]⟩
 | free {e:P2} {r:List P2} {b:B5} {H1:Hw} {er:Int}:q.q=e::r->bU x.kn e.1=some b->ly H x e.1=0->mf H x thread e.1 false=0->KN (eX H b) thread 1 0 0 b.2.2.1 H1 0 er->fY (eX H b) H1->nD (eX H b) thread b.2.2.1 H1 er →
  gS thread H x q H1 (x.gone e.1) ⟨q.bl,q.by',r,if KO H b=[]then q.rs else q.rs++[(e.1,mr (KO H b))]⟩
inductive jA (thread:Int):Hw->Gu->Qu->Hw->Gu->Qu->Prop where
 | stop {H:Hw} {x:Gu} {q:Qu}:pT q=false->jA thread H x q H x q
 | next {H H1 H':Hw} {x x1 x':Gu} {q q1 q':Qu}:pT q=true->gS thread H x q H1 x1 q1->jA thread H1 x1 q1 H' x' q'->jA thread H x q H' x' q'
inductive jO (thread:Int):Hw->Gu->Qu->Hw->Gu->Qu->Prop where
 | stop {H:Hw} {x:Gu} {q:Qu}:q.q=[]->jO thread H x q H x q
 | next {H H1 H':Hw} {x x1 x':Gu} {q q1 q':Qu}:gS thread H x q H1 x1 q1->jO thread H1 x1 q1 H' x' q'->jO thread H x q H' x' q'
def uI (gb:Nat)(q:Qu)(qs rs:Sl):List Value:=[.pointer (some ⟨gb,0,none⟩),.int .i64 q.bl,.int .i64 q.by',.slice qs.a qs.len qs.cap,.slice rs.a rs.len rs.cap]
def lD (P:Rg)(gb km fm qb:Nat)(Qq Qr:Rg):Rg:=λb=>Mg P gb km fm b\/b=qb\/Qq b\/Qr b
structure QP (σ0 U:Hp) (L:dH) (H:Hw) (held:List Pc) (s0:Sp) (P:Rg) (gb km fm:Nat) (x:Gu) (qb:Nat) (Qq Qr:Rg) (qs rs:Sl) (q:Qu):Prop where
 p:GP σ0 U L H held s0 P gb km fm x
 b:bZ U qb (uI gb q qs rs)
 rq:bS qs 2 (gL q.q) U Qq
 rr:bS rs 2 (gL q.rs) U Qr
 tN:σ0.size<=qb/\¬Mg P gb km fm qb/\¬Qq qb/\¬Qr qb
 qq:∀b,Qq b->σ0.size<=b/\b<U.size/\¬Mg P gb km fm b
 qr:∀b,Qr b->σ0.size<=b/\b<U.size/\¬Mg P gb km fm b
 dj:∀b,Qq b->¬Qr b
 i:sQ q
variable {qb:Nat}{Qq Qr:Rg}{qs rs:Sl}{q:Qu}
theorem QP.fr (o:QP σ0 U L H held s0 P gb km fm x qb Qq Qr qs rs q)(e:bL U w):QP σ0 w L H held s0 P gb km fm x qb Qq Qr qs rs q:=
 ⟨o.p.fr e,e.bW o.b id,aI.bP o.rq e,aI.bP o.rr e,o.tN,λb a=>by have h:=o.qq b a;have:=e.1;exact⟨h.1,O,h.2.2⟩,λb a=>by have h:=o.qr b a;have:=e.1;exact⟨h.1,O,h.2.2⟩,o.dj,o.i⟩
theorem QP.eZ (o:QP σ0 U L H held s0 P gb km fm x qb Qq Qr qs rs q){L':dH}{held':List Pc}{s0':Sp}{P':Rg}(e:Ext (Mg P gb km fm) U w)(p':GP σ0 w L' H' held' s0' P' gb km fm y)(hP:∀b,P' b->P b\/U.size<=b) :
 QP σ0 w L' H' held' s0' P' gb km fm y qb Qq Qr qs rs q:=by
 have D:=e.1;have a:=o.b.lt;obtain⟨u,s,C,B⟩:=o.tN;have r:∀b,b<U.size->¬Mg P gb km fm b->¬Mg P' gb km fm b:=λb E z A=>by
  rcases E8 ⟨o.p.b.lt,o.p.m.lt,o.p.f.lt⟩ hP b A with h4|h4
  ·exact z h4
  ·omega
 exact⟨p',e.bW o.b s,aI.bT o.rq e λb _ g d=>(o.qq b g).2.2 d,aI.bT o.rr e λb _ g d=>(o.qr b g).2.2 d,⟨u,r _ a s,C,B⟩,λb j=>by have h:=o.qq b j;exact⟨h.1,O,r b h.2.1 h.2.2⟩,λb j=>by have h:=o.qr b j;exact⟨h.1,O,r b h.2.1 h.2.2⟩,o.dj,o.i⟩
theorem QP.out (o:QP σ0 U L H held s0 P gb km fm x qb Qq Qr qs rs q)(e:Ext T U w)(hT:∀b,b<U.size->T b->¬lD P gb km fm qb Qq Qr b/\σ0.size<=b):QP σ0 w L H held s0 P gb km fm x qb Qq Qr qs rs q:=by
 have s:=e.1;have j:=o.b.lt;refine⟨o.p.out e λb a d=>?_,e.bW o.b λd=>(hT qb j d).1 (.inr (.inl rfl)),aI.bT o.rq e λb a m d=>(hT b a d).1 (.inr (.inr (.inl m))),aI.bT o.rr e λb a m d=>(hT b a d).1 (.inr (.inr (.inr m))),o.tN,λb a=>by have h:=o.qq b a;exact⟨h.1,O,h.2.2⟩,λb a=>by have h:=o.qr b a;exact⟨h.1,O,h.2.2⟩,o.dj,o.i⟩;have h:=hT b a d;have g:=Vq λr=>h.1 (.inl r);exact⟨g.1,g.2.1,g.2.2.1,g.2.2.2,h.2⟩
theorem QP.xp (o:QP σ0 U L H held s0 P gb km fm x qb Qq Qr qs rs q){s':Sl}{l':List P2}{Q':Rg}(e:Ext Qq U w)(hr:bS s' 2 (gL l') w Q')(hQ:∀b,Q' b->Qq b\/U.size<=b/\b<w.size)(hi:sQ {q with q:=l'}){K:aP}
 (hK:∀u,Ext (· = qb) w u->QP σ0 u L H held s0 P gb km fm x qb Q' Qr s' rs {q with q:=l'}->K u):dU (Addr.add ⟨qb,0,none⟩ 3) (.slice s'.a s'.len s'.cap) w K:=by
 have M:=e.1;have E:=o.b.lt;obtain⟨s,A,B,z⟩:=o.tN;have D:=o.p.out e λb _ d=>by have h:=o.qq b d;have g:=Vq h.2.2;exact⟨g.1,g.2.1,g.2.2.1,g.2.2.2,h.1⟩
 have r:=aI.bT o.rr e λb _ j G=>o.dj b G j;refine(e.bW o.b B).s1 (by simp[uI]) λu C b=>?_;have i:=C.ext;have F:=C.1;have g:=Vq A;have y:¬Q' qb:=λh=>by
  rcases hQ qb h with h|h
  ·exact B h
  ·omega
 refine hK u i ⟨D.out i λb _ (d:b=qb)=>by subst d;exact⟨g.1,g.2.1,g.2.2.1,g.2.2.2,s⟩,b,aI.bT hr i λb _ m (d:b=qb)=>y (d▸m),aI.bT r i λb _ m (d:b=qb)=>z (d▸m),⟨s,A,y,z⟩,λb d=>?_,λb d=>by have h:=o.qr b d;exact⟨h.1,O,h.2.2⟩,λb d j=>?_,hi⟩
 ·rcases hQ b d with d|d
  ·have h:=o.qq b d;exact⟨h.1,O,h.2.2⟩
  ·have:=o.p.e.1;exact⟨O,O,λJ=>by have:=u6 o.p J;omega⟩
 ·rcases hQ b d with d|d
  ·exact o.dj b d j
  ·have:=(o.qr b j).2.1;omega
theorem QP.gA (o:QP σ0 U L H held s0 P gb km fm x qb Qq Qr qs rs q){s':Sl}{l':List P2}{Q':Rg}(e:Ext Qr U w)(hr:bS s' 2 (gL l') w Q')(hQ:∀b,Q' b->Qr b\/U.size<=b/\b<w.size)(hi:sQ {q with rs:=l'}){K:aP}
 (hK:∀u,Ext (· = qb) w u->QP σ0 u L H held s0 P gb km fm x qb Qq Q' qs s' {q with rs:=l'}->K u):dU (Addr.add ⟨qb,0,none⟩ 4) (.slice s'.a s'.len s'.cap) w K:=by
 have M:=e.1;have E:=o.b.lt;obtain⟨s,A,B,z⟩:=o.tN;have D:=o.p.out e λb _ d=>by have h:=o.qr b d;have g:=Vq h.2.2;exact⟨g.1,g.2.1,g.2.2.1,g.2.2.2,h.1⟩
 have r:=aI.bT o.rq e λb _ i G=>o.dj b i G;refine(e.bW o.b z).s1 (by simp[uI]) λu C b=>?_;have j:=C.ext;have F:=C.1;have g:=Vq A;have y:¬Q' qb:=λh=>by
  rcases hQ qb h with h|h
  ·exact z h
  ·omega
 refine hK u j ⟨D.out j λb _ (d:b=qb)=>by subst d;exact⟨g.1,g.2.1,g.2.2.1,g.2.2.2,s⟩,b,aI.bT r j λb _ m (d:b=qb)=>B (d▸m),aI.bT hr j λb _ m (d:b=qb)=>y (d▸m),⟨s,A,B,y⟩,λb d=>by have h:=o.qq b d;exact⟨h.1,O,h.2.2⟩,λb d=>?_,λb d i=>?_,hi⟩
 ·rcases hQ b d with d|d
  ·have h:=o.qr b d;exact⟨h.1,O,h.2.2⟩
  ·have:=o.p.e.1;exact⟨O,O,λJ=>by have:=u6 o.p J;omega⟩
 ·rcases hQ b i with i|i
  ·exact o.dj b d i
  ·have:=(o.qq b d).2.1;omega
theorem sY {s:Sl}{l:List P2}(hs:cV s 2 (gL l) U F){i:Nat}{e:P2}(hb:l[i]?=some e){K:Addr->Prop}(hK:∀bb o,(∀(j:Nat) v,(kY e)[j]?=some v->cell U ⟨bb,o+j,none⟩=some v)->K ⟨bb,o,none⟩):Ix s.a s.len (i:Int) 2 K:=by
 have p:=(cZ.1 hb).1;have y:s.len=l.length:=by have:=hs.1;rw[Ux]at this;omega
 obtain⟨b,o,m,_⟩:=hs.cell (j:=2*i+0) (v:=.int .i64 e.1) ((AA hb O).trans rfl);rw[m];refine ix O O ?_;rw[add_lit];refine hK b _ λj v g=>?_;have u:j<2:=(cZ.1 g).1;obtain⟨x,w,d,r⟩:=hs.cell ((AA hb u).trans g);rw[m]at d;cases d;rw[show o+(i:Int).toNat*2+j=o+(2*i+j) by omega];exact r
theorem _root_.Go.Vc.bS.ky {s:Sl}{l:List P2}(h:bS s 2 (gL l) U F):s.len=l.length:=by have:=h.1;rw[Ux]at this;omega
theorem ui {ty:Nat}{a c:Int}{K:Addr->Hp->Prop}(hK:∀w',bL U w'->w'.size=U.size+1->bZ w' U.size [.int .i64 a,.int .i64 c]->K ⟨U.size,0,none⟩ w'):Nw (.cells #[.int .i64 0,.int .i64 0] ty (0,0)) U λn v20=>dU (n.add 0) (.int .i64 a) v20 λv21=>dU (n.add 1) (.int .i64 c) v21 λv22=>K n v22:=
 nw (cs:=[.int .i64 0,.int .i64 0]) λv20 p j m=>m.s1 aA λv21 b e=>e.s1 aA λv22 d g=>
  hK v22 (Ext.fresh j (b.ext.trans d.ext) λi (r:i=U.size)=>O) (by have:=b.1;have:=d.1;omega) g
theorem qG {ty:Nat}{a b c d:Int}{K:Addr->Hp->Prop}(hK:∀w',bL U w'->bZ w' U.size (lu (a,b,c,d))->K ⟨U.size,0,none⟩ w'):Nw (.cells #[.int .i64 0,.int .i64 0,.int .i64 0,.int .i64 0] ty (0,0)) U λn v20=>dU (n.add 0) (.int .i64 a) v20 λv21=>dU (n.add 1) (.int .i64 b) v21 λv22=>dU (n.add 2) (.int .i64 c) v22 λv23=>dU (n.add 3) (.int .i64 d) v23 λv24=>K n v24:=
 nw (cs:=[.int .i64 0,.int .i64 0,.int .i64 0,.int .i64 0]) λv20 y u w=>w.s1 aA λv21 j e=>e.s1 aA λv22 m g=>g.s1 aA λv23 x p=>p.s1 aA λv24 s r=>
  hK v24 (Ext.fresh u (((j.ext.trans m.ext).trans x.ext).trans s.ext) λi (z:i=U.size)=>O) r
theorem Jd {s:Sl}{l:List P2}(hr:bS s 2 (gL l) U Q)(hl:l.length<=100000)(k:P2){S:aP}(hS0:∀u,bL U u->S u){e t:Nat}{K:Sl->Hp->Prop}
 (hK:∀s' w,Ext Q U w->bS s' 2 (gL (l++[k])) w (λb=>Q b\/U.size<=b/\b<w.size)->S w/\K s' w) :
 Nw (.cells #[.int .i64 k.1,.int .i64 k.2] t (0,0)) U λn v=>And (S v)<|App s 2 16 e [.int .i64 0,.int .i64 0] ⟨some n,1,1⟩ v λs' w=>And (S w)<|K s' w:=by
 have i:=hr.ky;refine nw (cs:=kY k) λv p e1 a=>⟨hS0 v e1,?_⟩;have d:=aI.bP hr e1;refine d.app (ys:=kY k) rfl (by simp[kY]) ?_ (by simp[kY,dR]) ?_ ?_ ng λs' h' z r g=>?_
 ·intro j u hu;rw[add_lit,zH,a.cell];exact hu
 ·simp only;omega
 ·simp only;omega
 ·have m:Ext Q U h':=e1.to.trans r;refine hK s' h' m ?_;have:gL (l++[k])=gL l++kY k:=by simp[gL]
  rw[this];refine aI.mono (aI.cut g) λb y x=>?_;rcases x.1 with h1|h1
  ·exact .inl h1
  ·exact .inr ⟨O,y⟩
end Go.Ar
namespace Go.Ar
open Go Go.Vc Go.Proofs
open Go.Vc (bU dB cT)
variable {U σ0 v w w':Hp}{F P Q X T:Rg}{L:dH}{H H' H1:Hw}{held:List Pc}{s0 sp:Sp}{t n:Nat}{gb km fm m:Nat}{x y:Gu}{b:B5}{qb:Nat}{Qq Qr:Rg}{qs rs:Sl}{q:Qu}
theorem UW (o:QP σ0 U L H held s0 P gb km fm x qb Qq Qr qs rs q){R:aO}(hR:R true U):Wf.c (aW qb) U R:=by
 refine Wf.o ?_;unfold Wf.v;exact bV.intro (cD rfl (aG (o.b.rP rfl hR)))
theorem IK (o:QP σ0 U L H held s0 P gb km fm x qb Qq Qr qs rs q)(thread:Int){R:aN}(hR:∀σ',bL U σ'->R (QU H thread) σ'):Wv.c (aW qb) thread U R:=by
 refine Wv.o ?_;unfold Wv.v;refine UW o (cE rfl (aG (o.b.rP rfl (y7 o.p ?_))));refine KH (λr u=>bL U u/\r=decide (thread<0\/thread≥(H.cf.threads:Int))) (λr u ⟨d,g⟩=>?_) λJ i=>?_
 ·by_cases hc:thread<0\/thread≥(H.cf.threads:Int)
  ·have a:=hR u d;unfold QU at a;rw[zC hc]at a;exact cD (by rw[g];exact zJ hc) a
  ·have j:=o.p.fr d;refine cE (by rw[g];exact zL hc) (E0 j.h thread λs y e2 m=>?_);have a:=hR y (d.trans e2);unfold QU at a;rw[zB hc]at a;rw[m];cases hp:Ur H thread with
   | none=>rw[hp]at a;exact cE rfl a
   | some q=>rw[hp]at a;exact cD rfl a
 ·refine cQ (λh=>i _ _ ⟨Ext.refl _ _,by rw[zJ];exact .inl h⟩) λh=>Gs o.p.h λu e=>i _ _ ⟨e,?_⟩;rw[kT,decide_eq_true_iff,decide_eq_true_iff];exact⟨.inr,λw=>w.resolve_left h⟩
theorem NQ {s:Sl}{l:List P2}(h:cV s 2 (gL l) U F)(hl:s.len<=1000000){R:Sl->Hp->Prop}(hR:∀s' σ',bL U σ'->bS s' 2 (gL l) σ' (λb=>U.size<=b)->R s' σ'):Wh.c s U R:=by
 refine Wh.o ?_;unfold Wh.v;exact Dk h aB rfl (Jc l) aB hl λs' σ' _ e a=>hR s' σ' e a
theorem Rn {s:Sl}{xs:List Int}(h:cV s 1 (WD xs) U F)(hl:xs.length<=1000000)(hne:xs≠[]){R:aN}(hR:R (mr xs) U):W8.c s U R:=by
 refine W8.o ?_;unfold W8.v;have d:s.len=xs.length:=by have:=h.1;simp[WD]at this;omega
 have p:=qg.2 hne;refine Jn.intro (cE (zL O) ?_);obtain⟨a,l,rfl⟩:=List.exists_cons_of_ne_nil hne;have r:(a::l)[0]?=some a:=rfl;refine cV.mi (i:=0) h r ?_;refine Us (a:=bO) (bb:=bO) (λ(m i:Int) u=>u=U/\∃k:Nat,i=k+1/\k<=l.length/\m=(l.take k).foldl (λm z=>if z<m then z else m) a) (λ_ i _=>l.length+1-i.toNat) ⟨rfl,0,rfl,O,rfl⟩ ?_
 rintro(m:Int) (i:Int) u ⟨rfl,k,rfl,hk,rfl⟩;refine cQ (λw=>?_) λx=>?_
 ·have e:k<l.length:=by simp only[zV]at d;omega
  have j:l[k]?=some l[k]:=cX e;have b:(a::l)[k+1]?=some l[k]:=by rw[yu,j]
  generalize l[k]=y at j b;rw[show((k:Int)+1)=((k+1:Nat):Int) by omega];refine h.mi b (cS (m:=k+2) O O ⟨⟨rfl,k+1,O,O,?_⟩,O⟩);rw[ko,j,r9,vt];rfl
 ·have g:k=l.length:=by simp only[zV]at d;omega
  subst g;rw[l0];exact hR
theorem Lc {s:Sl}{bs:List Bk}(h:cV s 4 (jl bs) U F)(hl:bs.length<=1000000)(hs:bs.Pairwise λa c=>a.1<c.1)(hi:∀k∈bs,0<=k.1/\k.1<=1000000){a:Int}(ha:ku a){R:Int->Bool->Hp->Prop}
 (h1:∀w (i:Nat) k,bL U w->bs[i]?=some k->k.1=a->R (i:Int) true w) (h0:∀w i,bL U w->(∀k∈bs,k.1≠a)->R i false w) :
 Wg.c s a ⟨117,#[],#[]⟩ U R:=by
 refine Wg.o ?_;unfold Wg.v;have S:s.len=bs.length:=by have:=h.1;rw[Cb]at this;omega
 obtain⟨ha1,ha2⟩:=ha;have J:∀(k:Bk) (v:Hp) (K:aN),(∀D,bL v D->K (IntKind.i64.wrap (k.1-a)) D) →
  VH Tryz.prog ⟨117,#[],#[]⟩ [.agg #[.int .i64 k.1,.int .i64 k.2.1,.int .i64 k.2.2.1,.int .i64 k.2.2.2],.int .i64 a] [.one bO] v K:=by
  intro k v K hK;refine GR (all := #[.agg #[.int .i64 k.1,.int .i64 k.2.1,.int .i64 k.2.2.1,.int .i64 k.2.2.2],.int .i64 a]) (by kernel_rfl) aA ?_;refine WU.o ?_;unfold WU.v;exact nw (cs:=lu k) λv1 hz e hb=>hb.rI rfl (xh (hK v1 e))
 have w0:∀k∈bs,(IntKind.i64.wrap (k.1-a)==0)=decide (k.1=a):=λk x=>by
  have:=hi k x;rw[kT,zT,decide_eq_true_iff];unfold IntKind.wrap;simp[IntKind.bits,IntKind.signed];omega
 have A:∀{i j:Nat} {k r:Bk},bs[i]?=some k->bs[j]?=some r->i<j->k.1<r.1:=λ{i j k r} h1 N Q=>by
  obtain⟨l1,e1⟩:=cZ.1 h1;obtain⟨Z,e2⟩:=cZ.1 N;have:=mg.1 hs i j l1 Z Q;rw[e1,e2]at this;exact this
 refine Us (a:=bO) (bb:=bO) (λ(i j:Int) v=>∃c d:Nat,i=(c:Int)/\j=(d:Int)/\c<=d/\d<=bs.length/\bL U v/\∀(p:Nat) k,bs[p]?=some k->k.1=a->c<=p/\p<=d) (λi j _=>j.toNat-i.toNat) ⟨0,bs.length,rfl,by rw[S],O,O,Ext.refl _ _,λp k g _=>by have:=(cZ.1 g).1;omega⟩ ?_;rintro(i:Int) (j:Int) v ⟨c,d,rfl,rfl,hcd,hdl,ev,hpp⟩;refine cQ (λhlt=>?_) λY=>?_
 ·refine cS (m:=c+d) O O ?_;have hw:IntKind.u64.wrap ((c+d:Nat):Int)=((c+d:Nat):Int):=by
   unfold IntKind.wrap;simp[IntKind.bits,IntKind.signed];omega
  refine xh ?_;rw[hw];refine nn O ?_;have V:min (1:Int).toNat IntKind.u64.bits=1:=by decide
  rw[V,Bm];have E:(((c+d:Nat):Int)/2^1)=(((c+d)/2:Nat):Int):=by omega
  refine cS (m:=(c+d)/2) E O ?_;have C:(c+d)/2<bs.length:=by omega
  have x:bs[(c+d)/2]?=some bs[(c+d)/2]:=cX C;generalize bs[(c+d)/2]=k at x;have B:=zG x;have hki:=hi k B;refine CQ (aH.bP h ev) x λbb o z=>eY (z 0 _ rfl) (eY (z 1 _ rfl) (eY (z 2 _ rfl) (eY (z 3 _ rfl) (J k v _ λD L=>?_))));have y:∀{p:Nat} {r:Bk},bs[p]?=some r->r.1=a->IntKind.i64.wrap (k.1-a)=k.1-a:=λ{p r} g b=>by
   have:=hi r (zG g);exact Ub O O
  show If (decide (IntKind.i64.wrap (k.1-a)<0)) _ _;refine cQ (λG=>?_) λM=>?_
  ·refine cS (m:=(c+d)/2+1) O O ⟨⟨_,d,rfl,rfl,O,hdl,ev.trans L,λp r g b=>⟨?_,(hpp p r g b).2⟩⟩,O⟩;rw[y g b]at G;apply Classical.byContradiction;intro hx;rcases kb p ((c+d)/2)with N|N
   ·have:=A g x N;omega
   ·have:p=(c+d)/2:=by omega
    subst this;rw[x]at g;cases g;omega
  ·refine⟨⟨c,_,rfl,rfl,O,O,ev.trans L,λp r g b=>⟨(hpp p r g b).1,?_⟩⟩,O⟩;rw[y g b]at M;apply Classical.byContradiction;intro hx;have:=A x g O;omega
 ·have H:c=d:=by omega
  subst H;refine bV.intro (cQ (λX=>?_) λW=>?_)
  ·have C:c<bs.length:=by omega
   have x:bs[c]?=some bs[c]:=cX C;generalize bs[c]=k at x;have B:=zG x;refine CQ (aH.bP h ev) x λbb o z=>eY (z 0 _ rfl) (eY (z 1 _ rfl) (eY (z 2 _ rfl) (eY (z 3 _ rfl) (J k v _ λD L=>?_))));rw[w0 k B];by_cases hka:k.1=a
   ·rw[zJ hka];exact h1 D c k (ev.trans L) x hka
   ·rw[zL hka];refine h0 D _ (ev.trans L) λr b u=>?_;obtain⟨p,g⟩:=zO b;have:=hpp p r g u;have P:p=c:=by omega
    subst P;rw[x]at g;cases g;exact hka u
  ·refine h0 v _ ev λr b u=>?_;obtain⟨p,g⟩:=zO b;have:=hpp p r g u;have:=(cZ.1 g).1;omega
theorem Bp (bi:ie b){R:Sl->Hp->Prop}(hR:∀s w Q,bL U w->bS s 1 (WD (Yb b)) w Q->(∀c,Q c->U.size<=c/\c<w.size)->R s w):XP.c b.1 b.2.1 b.2.2.1 b.2.2.2.1 U R:=by
 refine XP.o ?_;unfold XP.v;have bb:=bi.base;have N:=bi.z;have K:=bi.m;have H:=bi.t;have J:=bi.s;have E:=Z0 (n:=b.2.1) O;have F:(Qm b:Int)*8=ZJ b.2.1:=by unfold Qm;omega
 let wl:Nat->List Int:=λi=>(List.range i).map λ(i:Nat)=>b.1+8*(i:Int)
 have p:∀i,wl (i+1)=wl i++[b.1+8*(i:Int)]:=λi=>by show List.map _ _=_;rw[pZ,jU];rfl
 have g:∀i,(wl i).length=i:=λi=>by show(List.map _ _).length=i;simp
 have r:wl (Qm b)=Yb b:=rfl
 clear_value wl
 refine nw (cs:=lu (b.1,b.2.1,b.2.2.1,b.2.2.2.1)) λv M e D=>?_;refine Us (a:=.s) (bb:=bO) (λ(out:Sl) (z:Int) u=>bL v u/\∃(i:Nat) (Q:Rg),z=8*(i:Int)/\i<=Qm b/\bS out 1 (WD (wl i)) u Q/\∀c,Q c->v.size<=c/\c<u.size) (λ_ z _=>(ZJ b.2.1-z).toNat)
  ⟨Ext.refl _ _,0,λ_=>False,rfl,O,by rw[tO (g 0)];exact⟨rfl,.inl ⟨rfl,rfl⟩⟩,λc d=>d.elim⟩ ?_
 rintro(out:Sl) (z:Int) u ⟨eu,i,Q,rfl,hi,hr,hQ⟩;have L:=eu.1;have j:=eu.bW D id;refine j.rI rfl (cQ (λy=>?_) λA=>?_)
 ·simp only at y;have C:out.len=i:=by have:=hr.1;simp[WD,g]at this;omega
  refine j.rI rfl (ar aC aC ?_);refine BN hr (by rw[g];omega) _ λG w B x=>?_;refine ar O O ⟨⟨Ext.fresh eu B λc d=>(hQ c d).1,i+1,_,O,O,by rw[p];exact x,λc d=>?_⟩,O⟩;have:=B.1;rcases d with d|d
  ·have:=hQ c d;omega
  ·omega
 ·simp only at A;have:i=Qm b:=by unfold Qm at hi ⊢;omega
  subst this;rw[r]at hr;exact hR out u Q (e.trans eu) hr λc d=>by have:=hQ c d;omega
theorem CP (o:QP σ0 U L H held s0 P gb km fm x qb Qq Qr qs rs q)(xi:∀e∈x.kn,e.1=e.2.1/\ie e.2)(hkl:x.kn.length<=1000000){a:Int}(ha:ku a){R:Int->Int->Int->Int->Bool->Hp->Prop}
 (h0:∀w,bL U w->bU x.kn a=none->R 0 0 0 0 false w) (h1:∀w b,bL U w->bU x.kn a=some b->R b.1 b.2.1 b.2.2.1 b.2.2.2.1 true w):WF.c (aW qb) a U R:=by
 refine WF.o ?_;unfold WF.v;refine nw (cs:=[.int .i64 0,.int .i64 0,.int .i64 0,.int .i64 0]) λv hz e hb=>?_;have o1:=o.fr e;have nd:(x.kn.map (·.1)).Nodup:=o.p.m.nodup;refine aG (o1.b.rP rfl (Mh o1.p xi hkl λs v1 es e1 j A=>?_));have N:=e1.bW hb id;have B:∀{w:Hp} {a b c d:Int} {K:Int->Int->Int->Int->Hp->Prop},bL v1 w->(∀g,bL U g->K a b c d g) →
  dU (Addr.add ⟨U.size,0,none⟩ 0) (.int .i64 a) w λv7=>dU (Addr.add ⟨U.size,0,none⟩ 1) (.int .i64 b) v7 λv8=>dU (Addr.add ⟨U.size,0,none⟩ 2) (.int .i64 c) v8 λv9=>dU (Addr.add ⟨U.size,0,none⟩ 3) (.int .i64 d) v9 λv10=>
  gJ .i64 (Addr.add ⟨U.size,0,none⟩ 0) v10 λr0=>gJ .i64 (Addr.add ⟨U.size,0,none⟩ 1) v10 λr1=>gJ .i64 (Addr.add ⟨U.size,0,none⟩ 2) v10 λr2=>gJ .i64 (Addr.add ⟨U.size,0,none⟩ 3) v10 λr3=>K r0 r1 r2 r3 v10:=λ{w a b c d K} C hK=>
  (C.bW N id).s1 aA λw1 o1 b1=>b1.s1 aA λw2 o2 b2=>b2.s1 aA λw3 o3 b3=>b3.s1 aA λw4 o4 b4=>b4.rI rfl (b4.rI rfl (b4.rI rfl (b4.rI rfl (hK w4 (Ext.fresh ((e.trans e1).trans C) (((o1.ext.trans o2.ext).trans o3.ext).trans o4.ext) λi (hi:i=U.size)=>O)))))
 have u:∀k∈es,k∈x.kn:=λk r=>j.p.mem_iff.1 r;have S:(es.map Go.Ar.b4).length<=1000000:=by rw[zk,j.p.length_eq];exact hkl
 refine Lc (bS.fX A) S ?_ ?_ ha (λw i k C r D=>?_) λw i C W=>?_
 ·rw[sB];refine j.s.imp_of_mem λ{k M} h1 Z hlt=>?_;have e1:=(xi k (u k h1)).1;have e2:=(xi M (u M Z)).1;show k.2.1<M.2.1;omega
 ·intro k r;obtain⟨y,J,rfl⟩:=zF.1 r;have F:=(xi y (u y J)).2;have h1:=F.base;have Z:=F.z;have h3:=F.m;have h4:=F.t;have h5:=F.s;have h6:=Z0 (n:=y.2.2.1) O;show 0<=y.2.1/\y.2.1<=1000000;omega
 ·rw[za,nR]at r;obtain⟨y,J,rfl⟩:=r;have E:=u y (zG J);have Y:y.1=a:=by rw[(xi y E).1];exact D
  have hg:bU x.kn a=some y.2:=by rw[←Y];exact QG nd (show(y.1,y.2)∈x.kn from E)
  have X:(es.map Go.Ar.b4)[i]?=some (Go.Ar.b4 y):=by rw[za,J];rfl
  refine cE rfl (CQ (aH.bP (bS.fX A) C) X λbb oo G=>eY (G 0 _ rfl) (eY (G 1 _ rfl) (eY (G 2 _ rfl) (eY (G 3 _ rfl) ?_))));exact B (K:=λa b c d g=>R a b c d true g) C λg V=>h1 g y.2 V hg
 ·refine cD rfl (B (K:=λa b c d g=>R a b c d false g) C λg V=>h0 g V ?_);rw[Hv];intro k r D;have Q:k∈es:=j.p.mem_iff.2 r;exact W (Go.Ar.b4 k) (zF.2 ⟨k,Q,rfl⟩) (by show k.2.1=a;rw[←(xi k r).1];exact D)
theorem SI (o:QP σ0 U L H held s0 P gb km fm x qb Qq Qr qs rs q)(a:Int){R:aO}(hR:∀w,bL U w->R (decide (a∈q.q.map (·.1))) w):WP.c (aW qb) a U R:=by
 refine WP.o ?_;unfold WP.v;refine nw (cs:=[.int .i64 a]) λv V e Q=>?_;have o1:=o.fr e;refine aG (o1.b.rS rfl (Wb.o ?_));unfold Wb.v;refine We.o ?_;unfold We.v;have N:=o.rq.ky;have G:=o.i.ql;refine Qg (a:=bO) (λ(i:Int) u=>bL v u/\∃k:Nat,i=k/\k<=q.q.length/\∀j e,j<k->q.q[j]?=some e->e.1≠a) (λi _=>q.q.length-i.toNat) ⟨Ext.refl _ _,0,rfl,O,λj e s=>O⟩ ?_;rintro(i:Int) u ⟨eu,k,rfl,hk,hno⟩;have B:=eu.bW Q id;refine cQ (λg=>?_) λE=>?_
 ·have r:q.q[k]?=some (q.q[k]'(by simp only at g;omega)):=cX _;generalize (q.q[k]'(by simp only at g;omega))=y at r;refine sY (bS.fX (o1.fr eu).rq) r λS W F=>eY (F 0 _ rfl) (eY (F 1 _ rfl) ?_);refine GR (all := #[.agg #[.int .i64 y.1,.int .i64 y.2],.pointer (some ⟨U.size,0,none⟩)]) (by kernel_rfl) aA (W5.o ?_);unfold W5.v;refine nw (cs:=kY y) λv3 J C A=>A.rI rfl ((C.bW B id).tZ rfl (cU (λp=>?_) λD=>?_))
  ·have d:y.1=a:=by simpa using p
   have:=hR v3 ((e.trans eu).trans C);rw[zJ (zF.2 ⟨y,zG r,d⟩)]at this;show R (decide ((k:Int)≥0)) v3;rw[zJ (show(k:Int)≥0 by omega)];exact this
  ·have d:y.1≠a:=by simpa using D
   exact cS (m:=k+1) O O ⟨⟨eu.trans C,k+1,rfl,by simp only at g;omega,λj e s p=>by
    by_cases hjk:j=k
    ·subst hjk;rw[r]at p;cases p;exact d
    ·exact hno j e O p⟩,by simp only at g;omega⟩
 ·have z:k=q.q.length:=by simp only at E;omega
  subst z;have:=hR u (e.trans eu);rw[zL λM=>by
   obtain⟨y,K,d⟩:=zF.1 M;obtain⟨j,s⟩:=zO K;exact hno j y (cZ.1 s).1 s d]at this
  exact this
def uV (x:Gu)(q:Qu)(a:Int):Bool:=q.q.any λe=>match bU x.kn e.1 with
 | some b=>decide (a∈Yb b)
 | none=>false
theorem Rm (o:QP σ0 U L H held s0 P gb km fm x qb Qq Qr qs rs q)(xi:∀e∈x.kn,e.1=e.2.1/\ie e.2)(hkl:x.kn.length<=1000000)(hqi:∀e∈q.q,ku e.1)(a:Int){R:aO}(hR:∀w,bL U w->R (uV x q a) w):WL.c (aW qb) a U R:=by
 refine WL.o ?_;unfold WL.v;refine nw (cs:=[.pointer (some ⟨qb,0,none⟩)]) λv0 hz0 e0 X=>nw (cs:=[.int .i64 a]) λv hz e hb=>?_;have E:=e0.trans e;have o1:=o.fr E;have g:=e.bW X id;refine g.qd rfl (aG (o1.b.rS rfl (Wb.o ?_)));unfold Wb.v;refine We.o ?_;unfold We.v;have hql:=o.rq.ky;have hq66:=o.i.ql
 let f:P2->Bool:=λe=>match bU x.kn e.1 with
  | some b=>decide (a∈Yb b)
  | none=>false
 have C:uV x q a=q.q.any f:=rfl;have hf1:∀(e:P2) b,bU x.kn e.1=some b->f e=decide (a∈Yb b):=λe b h=>by show(match bU x.kn e.1 with|some b=>decide (a∈Yb b)|none=>false)=_;rw[h]
 have hf0:∀(e:P2),bU x.kn e.1=none->f e=false:=λe h=>by show(match bU x.kn e.1 with|some b=>decide (a∈Yb b)|none=>false)=_;rw[h]
 clear_value f
 refine Qg (a:=bO) (λ(i:Int) u=>bL v u/\∃k:Nat,i=k/\k<=q.q.length/\∀j e,j<k->q.q[j]?=some e->f e=false) (λi _=>q.q.length-i.toNat) ⟨Ext.refl _ _,0,rfl,O,λj e M=>O⟩ ?_;rintro(i:Int) u ⟨eu,k,rfl,hk,hno⟩;have Y:=eu.bW hb id;have D:=eu.bW g id;have ou:=o1.fr eu;refine cQ (λd=>?_) λab=>?_
 ·have z:q.q[k]?=some (q.q[k]'(by simp only at d;omega)):=cX _;generalize (q.q[k]'(by simp only at d;omega))=y at z;have W:=hqi y (zG z);refine sY (bS.fX ou.rq) z λbb oo hc=>eY (hc 0 _ rfl) (eY (hc 1 _ rfl) ?_);refine GR (all := #[.agg #[.int .i64 y.1,.int .i64 y.2],.pointer (some ⟨U.size,0,none⟩),.pointer (some ⟨v0.size,0,none⟩)]) (by kernel_rfl) aA (WV.o ?_);unfold WV.v;refine nw (cs:=kY y) λv3 hz3 B hb3=>(B.bW D id).qd rfl (hb3.rI rfl ?_);have o3:=ou.fr B;have go:∀A (r:Bool),bL u A->r=f y->If r (R (decide ((k:Int)≥0)) A) (Ar .i64 ((k:Int)+1) λG=>(λ(i:Int) u=>bL v u/\∃k:Nat,i=k/\k<=q.q.length/\∀j e,j<k->q.q[j]?=some e->f e=false) G A/\q.q.length-G.toNat<q.q.length-(k:Int).toNat):=λA r N hr=>by
   subst hr;refine cU (λht=>?_) λhf=>?_
   ·have:=hR A ((E.trans eu).trans N);rw[C,zy.2 ⟨y,zG z,ht⟩]at this;rw[zJ (show(k:Int)≥0 by omega)];exact this
   ·exact cS (m:=k+1) O O ⟨⟨eu.trans N,k+1,rfl,by simp only at d;omega,λj e M V=>by
     by_cases hjk:j=k
     ·subst hjk;rw[z]at V;cases V;exact hf
     ·exact hno j e O V⟩,by simp only at d;omega⟩
  have box:∀{ty:Nat} {w:Hp} {a1 Z a3 a4:Int} {K:Addr->Hp->Prop},(∀w7,bL w w7->bZ w7 w.size (lu (a1,Z,a3,a4))->K ⟨w.size,0,none⟩ w7) →
   Nw (.cells #[.int .i64 0,.int .i64 0,.int .i64 0,.int .i64 0] ty (0,0)) w λJ v2=>dU (J.add 0) (.int .i64 a1) v2 λv3=>dU (J.add 1) (.int .i64 Z) v3 λv4=>dU (J.add 2) (.int .i64 a3) v4 λv5=>dU (J.add 3) (.int .i64 a4) v5 λv6=>K J v6:=λ{ty w a1 Z a3 a4 K} hK=>
   nw (cs:=[.int .i64 0,.int .i64 0,.int .i64 0,.int .i64 0]) λv2 hz2 e2 Q=>Q.s1 aA λv3 o3 b3=>b3.s1 aA λv4 o4 b4=>b4.s1 aA λv5 o5 b5=>b5.s1 aA λv6 o6 b6=>
    hK v6 (Ext.fresh e2 (((o3.ext.trans o4.ext).trans o5.ext).trans o6.ext) λi (hi:i=w.size)=>O) b6
  refine CP o3 xi hkl W (λw1 e1 hn=>box λp e2 Q=>Jn.intro ?_) λw1 bk e1 hg=>box λp e2 Q=>Jn.intro ?_
  ·exact⟨λm=>bL p m,Ext.refl _ _,cE rfl (go p false ((B.trans e1).trans e2) (hf0 y hn).symm)⟩
  ·have bi:ie bk:=(xi _ (KK hg)).2;have S:∀m,bL p m->bZ m w1.size (lu (bk.1,bk.2.1,bk.2.2.1,bk.2.2.2.1)):=λm e=>e.bW Q id;have hS2:∀m,bL p m->bZ m v0.size [.int .i64 a]:=λm N=>(((B.trans e1).trans e2).trans N).bW Y id;refine⟨λm=>bL p m,Ext.refl _ _,cD rfl (im (c:=bO) (y:=bk.1) S rfl (im (c:=bO) (y:=bk.2.1) S rfl (im (c:=bO) (y:=bk.2.2.1) S rfl (im (c:=bO) (y:=bk.2.2.2.1) S rfl (qY (c:=bO) (y:=a) hS2 rfl ?_)))))⟩;refine Bp bi λs w4 Q4 e4 hs4 _=>⟨e4,?_⟩;have aa:(Yb bk).length<=1000000000:=by
    have:=bi.s;have:=Z0 (n:=bk.2.1) O;simp[Yb,Qm];omega
   exact GD (bS.fX hs4) aa a ⟨e4,go w4 _ (((B.trans e1).trans e2).trans e4) (by rw[hf1 y bk hg];simp)⟩
 ·have hkn:k=q.q.length:=by simp only at ab;omega
  subst hkn;have:=hR u (E.trans eu);rw[C,mc.2 λy hy F=>by
   obtain⟨j,M⟩:=zO hy;rw[hno j y (cZ.1 M).1 M]at F;cases F]at this
  exact this
theorem DQ (o:QP σ0 U L H held s0 P gb km fm x qb Qq Qr qs rs q){R:aN}(hR:∀w,bL U w->R (iJ q.q) w):Wq.c (aW qb) U R:=by
 refine Wq.o ?_;unfold Wq.v;have C:=o.rq.ky;have B:=o.i.ql;refine UW o (cE rfl (aG (o.b.rS rfl ?_)));refine Us (a:=bO) (bb:=bO) (λ(z i:Int) u=>bL U u/\∃k:Nat,i=k/\k<=q.q.length/\z=iJ (q.q.take k)) (λ_ i _=>q.q.length-i.toNat) ⟨Ext.refl _ _,0,rfl,O,rfl⟩ ?_;rintro(z:Int) (i:Int) u ⟨eu,k,rfl,hk,rfl⟩;refine cQ (λd=>?_) λr=>?_
 ·have g:q.q[k]?=some (q.q[k]'(by simp only at d;omega)):=cX _;generalize (q.q[k]'(by simp only at d;omega))=y at g;have G:=o.i.qs y (zG g);have p:=Pm (l:=q.q.take k) λe E=>o.i.qs e (uK E);rw[zY]at p;refine sY (bS.fX (o.fr eu).rq) g λbb J A=>eY (A 0 _ rfl) (eY (A 1 _ rfl) (ui λw D _ j=>j.rI rfl ?_));have F:iJ (q.q.take (k+1))=iJ (q.q.take k)+y.2:=by rw[ko,g,r9,SJ]
  exact ar O O (cS (m:=k+1) O O ⟨⟨eu.trans D,k+1,rfl,by simp only at d;omega,F.symm⟩,by simp only at d;omega⟩)
 ·have s:k=q.q.length:=by simp only at r;omega
  subst s;rw[l0];exact hR u eu
theorem EY (o:QP σ0 U L H held s0 P gb km fm x qb Qq Qr qs rs q){R:Sl->Hp->Prop}(hR:∀s w Q,bL U w->bS s 1 (WD (q.q.map (·.1))) w Q->(∀c,Q c->U.size<=c/\c<w.size)->R s w):Wx.c (aW qb) U R:=by
 refine Wx.o ?_;unfold Wx.v;have G:=o.rq.ky;have N:=o.i.ql;refine UW o (cE rfl (aG (o.b.rS rfl (mk aC aC λv Y e S=>?_))));have o1:=o.fr e;have j:(List.replicate qs.len [Value.int .i64 0]).flatten=WD ((q.q.map (·.1)).take 0++List.replicate (q.q.length-0) 0):=by
  rw[G];simp[WD]
 rw[j]at S;refine aG (o1.b.rS rfl ?_);refine Qg (a:=bO) (λ(i:Int) u=>∃k:Nat,i=k/\k<=q.q.length/\bL U u/\bZ u U.size (WD ((q.q.map (·.1)).take k++List.replicate (q.q.length-k) 0))) (λi _=>q.q.length-i.toNat) ⟨0,rfl,O,e,S⟩ ?_;rintro(i:Int) u ⟨k,rfl,hk,eu,hbu⟩;refine cQ (λB=>?_) λJ=>?_
 ·have d:k<q.q.length:=by simp only at B;omega
  have F:q.q[k]?=some q.q[k]:=cX d;have z:(q.q.map (·.1))[k]?=some q.q[k].1:=by rw[za,F];rfl
  generalize q.q[k]=y at F z;refine sY (bS.fX (o.fr eu).rq) F λX Z D=>eY (D 0 _ rfl) (eY (D 1 _ rfl) (ui λw K _ C=>C.rI rfl (ix O aC ?_)));rw[add_lit,show 0+(k:Int).toNat*1=k by omega];have p:=K.bW hbu id;have g:(WD ((q.q.map (·.1)).take k++List.replicate (q.q.length-k) 0)).length=q.q.length:=by simp[WD];omega
  refine p.s0 (by rw[g];exact d) λw2 o2 M=>?_;have r:(WD ((q.q.map (·.1)).take k++List.replicate (q.q.length-k) 0)).set k (.int .i64 y.1)=WD ((q.q.map (·.1)).take (k+1)++List.replicate (q.q.length-(k+1)) 0):=by
   unfold WD;rw[←uD,Ce _ _ (by rw[zY];omega),ko,z,r9,zr]
   congr 2
   rw[zY,zk,pX O,oU];obtain⟨n,V⟩:∃n,q.q.length-k=n+1:=⟨q.q.length-k-1,O⟩;rw[V,show q.q.length-(k+1)=n by omega,sd];rfl
  rw[r]at M;exact cS (m:=k+1) O O ⟨⟨k+1,rfl,O,Ext.fresh (eu.trans K) o2.ext λi (W:i=U.size)=>O,M⟩,by simp only at B;omega⟩
 ·have E:k=q.q.length:=by simp only at J;omega
  subst E;have A:(q.q.map (·.1)).take q.q.length++List.replicate (q.q.length-q.q.length) 0=q.q.map (·.1):=by
   rw[oU,List.replicate_zero,lC,lz aA]
  rw[A]at hbu;refine hR _ u (· = U.size) eu ⟨by simp[WD];omega,.inr ⟨U.size,_,rfl,rfl,hbu,zD _,by simp[WD];omega,l0⟩⟩ λc D=>?_;have:=hbu.lt;omega
end Go.Ar