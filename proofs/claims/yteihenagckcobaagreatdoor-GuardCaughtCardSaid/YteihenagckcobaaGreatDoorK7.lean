/- Texts joined. -/
import Derived.Shelf.SlSortCmp.NoneTotal
import Derived.Ground.SlsfProg
import Derived.Test.YteihenagckcobaaGreatDoorProg
import Derived.Shelf.SlIterI.Nil
import Derived.Ground.GgzProg
import Derived.Test.YteihenagckcobaaGreatDoorK6
set_option linter.unusedVariables false
set_option linter.unusedSimpArgs false
namespace Go.Ar
open Go Go.Vc Go.Proofs
variable {U w:Hp}
def mE:Nat->Int->Int->List T3
 | 0,_,_=>[]
 | n+1,s,w=>if s<512 then k8 s w::mE n (s+vG s w) w else[]
def allM (w:Int):List T3:=mE 64 8 w++[k8 512 w]
def oV (l:List T3)(i:Nat):Bool:=i==l.length-1||(match l[i]?,l[i+1]? with
 | some x,some y=>x.2.1 != y.2.1||mF x != mF y
 | _,_=>false)
def l4 (l:List T3)(n:Nat):List T3:=(List.range n).filterMap λi=>if oV l i then l[i]? else none
def qv (w:Int):List T3:=l4 (allM w) (allM w).length
def tC (x:T3):Prop:=8<=x.1/\x.1<=512/\1<=x.2.1/\x.2.1<=4
theorem El (s w:Int)(h1:8<=s)(h2:s<=512):tC (k8 s w):=⟨h1,h2,Pj s w 4⟩
theorem sX {Q:Rg}{s:Sl}{l:List T3}{e1 e2:Nat}(ho:Go.Vc.Own Q U s 3 (kg l))(hQ:∀b,U.size<=b->Q b)(hl:l.length<=1000)(x:T3){K:Sl->Hp->Prop}(hK:∀s' σ',Ext Q U σ'->Go.Vc.Own Q σ' s' 3 (kg (l++[x]))->K s' σ') :
 Nw (.cells #[.int .i64 x.1,.int .i64 x.2.1,.int .i64 x.2.2] e1 (0,0)) U λn20 v3=>App s 3 24 e2 [.int .i64 0,.int .i64 0,.int .i64 0] ⟨some n20,1,1⟩ v3 K:=by
 have i:s.len=l.length:=by have:=ho.1;rw[VS]at this;omega
 refine nw (cs:=v3 x) λv p e a=>?_;refine(ho.bO e).app (ys:=v3 x) (λb a=>hQ b O) rfl rfl ?_ (by simp[v3,dO]) ?_ ?_ mU λs' d _ g m _=>hK s' d ?_ ?_
 ·intro j u hu;rw[add_lit,zH,a.cell];exact hu
 ·simp only;have:(s.len+1)*24<=1001*24:=l5 O O;omega
 ·simp only;omega
 ·exact(aG.to e).trans (g.sub λb a=>((ho.bO e).jj a).1)
 ·rw[BZ];exact m
theorem OA (w:Int)(h:w<2\/16<w){R:Sl->Int->Hp->Prop}(hR:R ⟨none,0,0⟩ 1 U):WT.c w U R:=by
 refine WT.o ?_;unfold WT.v;exact bW.intro (cP (λa=>cC rfl hR) λa=>cC (zJ O) hR)
theorem DU (w:Int)(hw1:2<=w)(hw2:w<=16){R:Sl->Int->Hp->Prop}(hR:∀s' σ',aG U σ'->ig σ' s' (qv w)->R s' 0 σ'):WT.c w U R:=by
 refine WT.o ?_;unfold WT.v;refine bW.intro (fT O (cB (zN O) ?_));refine VO (a:=.s) (bb:=bN) (λ(all:Sl) (s:Int) u=>∃(n:Nat) (done:List T3),8<=s/\s<=768/\aG U u/\Go.Vc.Own (λb=>U.size<=b) u all 3 (kg done)/\done++mE n s w=mE 64 8 w/\512<=s+8*(n:Int)/\(∀x∈done,tC x)/\done.length+n=64) (λ_ s _=>1000-s.toNat) ⟨64,[],O,O,Ext.refl _ _,Own.nil _ _ _,rfl,O,by simp,by simp⟩ ?_;rintro(all:Sl) (s:Int) u ⟨n,done,hs1,hs2,eu,ho,hdone,hn,hok,hlen⟩;refine cP (λM=>?_) λX=>?_
 ·obtain⟨n,rfl⟩:∃m,n=m+1:=⟨n-1,O⟩;refine D7 s w O O hw1 hw2 λv2 e2=>?_;refine sX (ho.bO e2) (λb E=>by have:=eu.1;have:=e2.1;omega) O (k8 s w) λall1 v4 e4 h4=>?_;have e04:aG U v4:=Ext.dW (eu.trans e2) e4 λb E=>.inr E;refine P9 s w O O hw1 λd1 d2=>ar O O ⟨⟨n,done++[k8 s w],O,O,e04,h4,?_,O,λx B=>?_,by simp;omega⟩,O⟩
  ·rw[←hdone,jL]
   congr 1
   conv=>rhs;rw[mE,zC M]
   rfl
  ·rcases zK.1 B with h1|h1
   ·exact hok x h1
   ·rw[zL]at h1;subst h1;exact El s w O O
 ·have P:mE n s w=[]:=by
   cases n with
   | zero=>rfl
   | succ n=>rw[mE,zB X]
  rw[P,kI]at hdone;refine D7 512 w O O hw1 hw2 λv6 e6=>?_;refine sX (ho.bO e6) (λb E=>by have:=eu.1;have:=e6.1;omega) O (k8 512 w) λe v8 e8 J=>?_;have e08:aG U v8:=Ext.dW (eu.trans e6) e8 λb E=>.inr E;rw[hdone]at J;have A:∀x∈allM w,tC x:=λx B=>by
   rcases zK.1 B with h1|h1
   ·rw[←hdone]at h1;exact hok x h1
   ·rw[zL]at h1;subst h1;exact El 512 w O O
  have hml:(allM w).length<=65:=by unfold allM;rw[←hdone];simp;omega
  have J:Go.Vc.Own (λb=>U.size<=b) v8 e 3 (kg (allM w)):=J;generalize hall:allM w=l at J A hml;have hmk:qv w=l4 l l.length:=by unfold qv;rw[hall]
  have hl2:e.len=l.length:=by have:=J.1;rw[VS]at this;omega
  refine VO (a:=.s) (bb:=bN) (λ(out:Sl) (z:Int) u=>∃i:Nat,z=(i:Int)/\i<=l.length/\aG v8 u/\Go.Vc.Own (λb=>v8.size<=b) u out 3 (kg (l4 l i))/\(l4 l i).length<=i) (λ_ z _=>l.length-z.toNat) ⟨0,rfl,O,Ext.refl _ _,Own.nil _ _ _,by simp[l4]⟩ ?_;rintro(out:Sl) (z:Int) u ⟨i,rfl,hi,eu8,hout,hol⟩;refine cP (λM=>?_) λX=>?_
  ·have hi':i<l.length:=by omega
   have B:l[i]?=some l[i]:=cU hi';generalize l[i]=x at B;have D:=A x (zG B);have g:l4 l (i+1)=l4 l i++(if oV l i then[x]else[]):=by
    unfold l4;rw[ox,vV]
    congr 1
    by_cases hk:oV l i=true
    ·simp[hk,B]
    ·simp[hk]
   have hA:∀m,aG u m->ig m e l:=λm d=>E0 (J.bO (eu8.trans d));refine yX (λr u'=>aG u u'/\r=oV l i) (λr u' ⟨j,hr⟩=>?_) λJ3 G=>?_
   ·have W:=hout.bO j;cases hk:oV l i with
    | true=>
     rw[hk]at hr g;refine cC hr (xz (hA u' j) B ?_);refine sX W (λb E=>by have:=eu8.1;have:=j.1;omega) O x λout1 v12 e12 h12=>?_;refine cS (m:=i+1) O O ⟨⟨i+1,rfl,O,Ext.dW (eu8.trans j) e12 λb E=>.inr E,?_,?_⟩,O⟩
     ·rw[g];exact h12
     ·rw[g];simp;omega
    | false=>
     rw[hk]at hr g;refine cB hr (cS (m:=i+1) O O ⟨⟨i+1,rfl,O,eu8.trans j,?_,?_⟩,O⟩)
     ·rw[g];simpa using W
     ·rw[g];simp;omega
   ·refine⟨λm=>aG u m,Ext.refl _ _,ar O O ?_⟩;refine cO (λF=>G _ _ ⟨Ext.refl _ _,?_⟩) λhnl=>?_
    ·have:i=l.length-1:=by simp only[zT]at F;omega
     unfold oV;rw[this];simp
    ·have hi2:i+1<l.length:=by simp only[l6]at hnl;omega
     have hy:l[i+1]?=some l[i+1]:=cU hi2;generalize l[i+1]=y at hy;have C:=A y (zG hy);have V:oV l i=(x.2.1 != y.2.1||mF x != mF y):=by
      unfold oV;rw[B,hy];have:(i==l.length-1)=false:=by simp only[l6];omega
      rw[this];rfl
     have Q:=λ(m:Hp) (d:aG u m)=>(hA m d).2 i x.1 x.2.1 x.2.2 B;have hcy:=λ(m:Hp) (d:aG u m)=>(hA m d).2 (i+1) y.1 y.2.1 y.2.2 hy;obtain⟨b,o,ha,_,_⟩:=Q u (Ext.refl _ _);have Z:∀m,aG u m->cell m ⟨b,o+i*3,none⟩=some (.int .i64 x.1)/\cell m ⟨b,o+i*3+1,none⟩=some (.int .i64 x.2.1)/\cell m ⟨b,o+i*3+2,none⟩=some (.int .i64 x.2.2):=λm d=>by
      obtain⟨b',o',p,_,h⟩:=Q m d;rw[ha]at p;cases p;exact h
     have Y:∀m,aG u m->cell m ⟨b,o+(i+1)*3,none⟩=some (.int .i64 y.1)/\cell m ⟨b,o+(i+1)*3+1,none⟩=some (.int .i64 y.2.1)/\cell m ⟨b,o+(i+1)*3+2,none⟩=some (.int .i64 y.2.2):=λm d=>by
      obtain⟨b',o',p,_,h⟩:=hcy m d;rw[ha]at p;cases p;exact h
     have L:∀{K:Addr->Prop},K ⟨b,o+i*3,none⟩->Ix e.a e.len (i:Int) 3 K:=λhK=>by
      rw[ha];exact ix O O (by rw[add_lit,dD];exact hK)
     have S:∀{K:Addr->Prop},K ⟨b,o+(i+1)*3,none⟩->Ix e.a e.len ((i+1:Nat):Int) 3 K:=λhK=>by
      rw[ha];exact ix O O (by rw[add_lit,dD];exact hK)
     refine L ⟨x.2.1,λm d=>by rw[add_lit];exact(Z m d).2.1,cS (m:=i+1) O O (S ⟨y.2.1,λm d=>by rw[add_lit];exact(Y m d).2.1,?_⟩)⟩;refine cO (λhp=>G _ _ ⟨Ext.refl _ _,by rw[V,hp];rfl⟩) λhp=>?_;refine L ⟨x.1,λm d=>by rw[add_lit];exact(Z m d).1,⟨x.2.1,λm d=>by rw[add_lit];exact(Z m d).2.1,⟨x.2.2,λm d=>by rw[add_lit];exact(Z m d).2.2,?_⟩⟩⟩;refine cS (m:=i+1) O O (S ⟨y.1,λm d=>by rw[add_lit];exact(Y m d).1,⟨y.2.1,λm d=>by rw[add_lit];exact(Y m d).2.1,⟨y.2.2,λm d=>by rw[add_lit];exact(Y m d).2.2,?_⟩⟩⟩);refine Dy x D.1 D.2.1 D.2.2.1 D.2.2.2 λv13 H=>⟨H,Dy y C.1 C.2.1 C.2.2.1 C.2.2.2 λv14 N=>⟨H.trans N,G _ _ ⟨H.trans N,by rw[V,hp];rfl⟩⟩⟩
  ·have hil:i=l.length:=by omega
   subst hil;refine hR out u (e08.trans eu8) ?_;rw[hmk];exact E0 hout
theorem Gg:∀w:Nat,2<=w->w<=16->Qp (qv (w:Int))=true:=by
 have h:((List.range 17).all λw=>decide (w<2)||Qp (qv (w:Int)))=true:=by decide +kernel
 intro w h1 h2;have:=ke.1 h w (zd.2 O);simp only[nG,zU]at this;exact this.resolve_left O
end Go.Ar
namespace Go.Proofs
open Go.Shelf
def Tryz.eP:Go.Shelf.Ren:=⟨fun|6=>263|15=>87|14=>291|28=>128|29=>129|20=>311|21=>312|22=>313|23=>314|24=>315|25=>316|26=>317|27=>318|46=>324|47=>185|48=>186|49=>325|50=>326|57=>328|n=>n,fun|22=>129|24=>135|25=>341|3=>3|39=>145|0=>0|53=>196|55=>55|4=>4|46=>188|45=>187|50=>193|5=>5|9=>9|66=>271|70=>275|76=>324|77=>325|n=>n,fun|n=>n⟩
theorem Tryz.oH:Go.Proofs.SlLaysF0.n6 Tryz.prog Tryz.eP:={
 mixed:=by kernel_rfl
 f6:=⟨Tryz.f263.name,by decide,Tryz.func263.trans (congrArg some (by kernel_rfl))⟩
 f14:=⟨Tryz.f291.name,by decide,Tryz.func291.trans (congrArg some (by kernel_rfl))⟩
 f15:=Tryz.func87.trans (congrArg some (by kernel_rfl))
 f20:=⟨Tryz.f311.name,by decide,Tryz.func311.trans (congrArg some (by kernel_rfl))⟩
 f21:=⟨Tryz.f312.name,by decide,Tryz.func312.trans (congrArg some (by kernel_rfl))⟩
 f22:=⟨Tryz.f313.name,by decide,Tryz.func313.trans (congrArg some (by kernel_rfl))⟩
 f23:=⟨Tryz.f314.name,by decide,Tryz.func314.trans (congrArg some (by kernel_rfl))⟩
 f24:=⟨Tryz.f315.name,by decide,Tryz.func315.trans (congrArg some (by kernel_rfl))⟩
 f25:=⟨Tryz.f316.name,by decide,Tryz.func316.trans (congrArg some (by kernel_rfl))⟩
 f26:=⟨Tryz.f317.name,by decide,Tryz.func317.trans (congrArg some (by kernel_rfl))⟩
 f27:=⟨Tryz.f318.name,by decide,Tryz.func318.trans (congrArg some (by kernel_rfl))⟩
 f28:=Tryz.func128.trans (congrArg some (by kernel_rfl))
 f29:=Tryz.func129.trans (congrArg some (by kernel_rfl))
 f46:=⟨Tryz.f324.name,by decide,Tryz.func324.trans (congrArg some (by kernel_rfl))⟩
 f47:=Tryz.func185.trans (congrArg some (by kernel_rfl))
 f48:=Tryz.func186.trans (congrArg some (by kernel_rfl))
 f49:=⟨Tryz.f325.name,by decide,Tryz.func325.trans (congrArg some (by kernel_rfl))⟩
 f50:=⟨Tryz.f326.name,by decide,Tryz.func326.trans (congrArg some (by kernel_rfl))⟩
 f57:=⟨Tryz.f328.name,by decide,Tryz.func328.trans (congrArg some (by kernel_rfl))⟩
 t0:=Tryz.underlying0
 a0:=Tryz.isAgg0
 z0:=Tryz.sizeOf0
 v0:=Tryz.zeroValue0
 t3:=Tryz.underlying3
 a3:=Tryz.isAgg3
 z3:=Tryz.sizeOf3
 v3:=Tryz.zeroValue3
 t4:=Tryz.underlying4
 a4:=Tryz.isAgg4
 z4:=Tryz.sizeOf4
 v4:=Tryz.zeroValue4
 t5:=Tryz.underlying5
 a5:=Tryz.isAgg5
 z5:=Tryz.sizeOf5
 v5:=Tryz.zeroValue5
 t9:=Tryz.underlying9
 a9:=Tryz.isAgg9
 z9:=Tryz.sizeOf9
 v9:=Tryz.zeroValue9
 t22:=Tryz.underlying129
 a22:=Tryz.isAgg129
 z22:=Tryz.sizeOf129
 v22:=Tryz.zeroValue129
 t25:=Tryz.underlying341
 a25:=Tryz.isAgg341
 z25:=Tryz.sizeOf341
 v25:=Tryz.zeroValue341
 t39:=Tryz.underlying145
 a39:=Tryz.isAgg145
 z39:=Tryz.sizeOf145
 v39:=Tryz.zeroValue145
 t45:=Tryz.underlying187
 a45:=Tryz.isAgg187
 z45:=Tryz.sizeOf187
 v45:=Tryz.zeroValue187
 t46:=Tryz.underlying188
 a46:=Tryz.isAgg188
 z46:=Tryz.sizeOf188
 v46:=Tryz.zeroValue188
 t50:=Tryz.underlying193
 a50:=Tryz.isAgg193
 z50:=Tryz.sizeOf193
 v50:=Tryz.zeroValue193
 t53:=Tryz.underlying196
 a53:=Tryz.isAgg196
 z53:=Tryz.sizeOf196
 v53:=Tryz.zeroValue196
 t55:=Tryz.underlying55
 a55:=Tryz.isAgg55
 z55:=Tryz.sizeOf55
 v55:=Tryz.zeroValue55
 t66:=Tryz.underlying271
 a66:=Tryz.isAgg271
 z66:=Tryz.sizeOf271
 v66:=Tryz.zeroValue271
 t70:=Tryz.underlying275
 a70:=Tryz.isAgg275
 z70:=Tryz.sizeOf275
 v70:=Tryz.zeroValue275
 t76:=Tryz.underlying324
 a76:=Tryz.isAgg324
 z76:=Tryz.sizeOf324
 v76:=Tryz.zeroValue324
 t77:=Tryz.underlying325
 a77:=Tryz.isAgg325
 z77:=Tryz.sizeOf325
 v77:=Tryz.zeroValue325}
end Go.Proofs
namespace Go.Ar
open Go Go.Vc Go.Proofs Go.RowKit Go.Sort Go.Shelf Go.Lib
abbrev sH:=Fin 64×Sl
instance:Inhabited sH:=⟨(0,⟨none,0,0⟩)⟩
def ky (x:sH):List Value:=[.int .i64 (x.1.val:Int),.slice x.2.a x.2.len x.2.cap]
def oS (x y:sH):Int:=(x.1.val:Int)-(y.1.val:Int)
theorem Bq (x y:sH)(W:World):Calls Tryz.prog 264 #[.agg #[.int .i64 (x.1.val:Int),.slice x.2.a x.2.len x.2.cap],.agg #[.int .i64 (y.1.val:Int),.slice y.2.a y.2.len y.2.cap]] W λe w'=>e=.returned (.int .i64 (oS x y))/\∃q os',w'=grow (W.drewN q) os':=by
 have b:IntKind.i64.wrap ((x.1.val:Int)-(y.1.val:Int))=oS x y:=by
  have g:=x.1.isLt;have d:=y.1.isLt;unfold oS;exact UC O O
 go_enter Tryz.func264,Tryz.ntmps264
 go_wp2
 go_ret
 exact⟨rfl,0,_,by rw[alloc_eq_grow,alloc_eq_grow,grow_grow];rfl⟩
theorem AT:SWO (ltOf oS) where
 irrefl x:=by simp[ltOf,oS]
 trans x y z a h2:=by
  have a:=rO a;have h2:=rO h2;unfold oS at a h2;exact zJ (by unfold oS;omega)
 ntrans x y z a h2:=by
  have a:=vY a;have h2:=vY h2;unfold oS at a h2;exact zN (by unfold oS;omega)
def sM (x:sH):Nat×Sl:=(x.1.val,x.2)
theorem CV (l:List sH)(j:Nat)(hj:j<l.length*2):(fG (l.map sM))[j]?=some (flatK ky 2 l.toArray)[j]! := by
 rw[get_flatK _ _ _ _ (by simpa using hj)];have a:j/2<l.length:=by omega
 have e1:l.toArray[j/2]! = l[j/2]:=by rw[getElem!_pos _ _ (by simpa using a)];simp
 have b:(l.map sM)[j/2]?=some (sM l[j/2]):=by simp[a]
 have:=Mp b (d:=j%2) O;rw[show 2*(j/2)+j%2=j by omega]at this;rw[this,e1];have hd:j%2=0\/j%2=1:=by omega
 rcases hd with h|h<;>rw[h]<;>rfl
theorem Fm:GC:=by
 intro U F s xs hrow hk hlen R hR;rintro w rfl;have hsl:s.len=xs.length:=by have:=hrow.1;rw[KH]at this;omega
 rcases hrow.2 with⟨h0,hc0⟩|⟨b,cs,hF,ha,hb,hle,hcl,ht⟩
 ·have M:xs=[]:=xm.1 O;have:=AnyF.slices_SortFunc_none Tryz.oH s.a s.cap (.func (.func 264) #[] #[]) w;show Calls _ _ #[.slice s.a s.len s.cap,.func (.func 264) #[] #[]] w _;rw[h0];refine this.mono ?_;rintro e Z ⟨rfl,rfl⟩;subst M;exact⟨.refl _,[],rfl,hR [] _ (.refl _) List.Pairwise.nil (Ext.refl _ _) hrow⟩
 ·have J:∀x∈xs,x.1<64:=hk
  let toK:Nat×Sl->sH:=λx=>(Fin.ofNat 64 x.1,x.2)
  have u:(xs.map toK).map sM=xs:=by
   rw[lx]
   conv=>rhs;rw[←uM xs]
   apply kh;intro x hx;simp only[Function.comp,toK,sM,Fin.ofNat,id];rw[uj (J x hx)]
  have N:(xs.map toK).length=xs.length:=by simp
  generalize xs.map toK=l at u N;have C:=hb.lt;have X:HoldsK ky 2 w b 0 l.toArray:=by
   intro j hj;simp only[size_flatK,xG]at hj;have W:Vc.cell w.heap ⟨b,0+j,none⟩=some (flatK ky 2 l.toArray)[j]! := by
    rw[hb.cell,zH,←CV l j hj,u];rw[←ht,zk,zC (by rw[KH];omega)]
   exact⟨W,hb.nh⟩
  have Y:∀args w,(callFunc 264 args).run Tryz.prog w=.ok (.enter 264 args) w:=enters_of Tryz.func264 (by kernel_rfl) rfl;have z:∀w,(isAgg (Tryz.eP.t 24)).run Tryz.prog w=.ok true w:=λw=>by
   have h:=KW (P:=Tryz.prog) (t:=Tryz.eP.t 24) (d:=(Tryz.prog.underlying (Tryz.eP.t 24)).getD .bool) (by kernel_rfl) w
   rwa [show Uq ((Tryz.prog.underlying (Tryz.eP.t 24)).getD .bool)=true by kernel_rfl]at h
  have H:∀w,(Go.sizeOf (Tryz.eP.t 24)).run Tryz.prog w=.ok 2 w:=λw=>by
   have h:=QQ (P:=Tryz.prog) (t:=Tryz.eP.t 24) (by kernel_rfl) w
   rwa [show Tryz.prog.cellsOf (Tryz.eP.t 24)=2 by kernel_rfl]at h
  have A:=AnyQ.slices_SortFunc Tryz.oH 2 z H ky (λ_=>rfl) (λx v Q=>by simp only[ky,zV,List.not_mem_nil,or_false]at Q;rcases Q with rfl|rfl<;>rfl) oS AT 264 #[] b 0 s.cap l.toArray w Y (λ_ _ _ _ x y=>Bq x y _) X C (by simp only[xG];omega)
  show Calls _ _ #[.slice s.a s.len s.cap,.func (.func 264) #[] #[]] w _;rw[ha,show s.len=l.toArray.size by simp only[xG];omega];refine A.mono ?_;rintro e Z ⟨rfl,d',n,os,S,L,rfl⟩;have g:d'.size=l.length:=by simpa using S.1
  have r:d'.toList.Perm l:=by
   have K:=S.2.2;rw[show l.toArray.size=d'.size by simp[g]]at K;have e1:(d'.extract 0 d'.size)=d':=by simp
   have e2:(l.toArray.extract 0 d'.size)=l.toArray:=by rw[g];simp
   rw[e1,e2]at K;simpa using K
  obtain⟨ty,E⟩:=hb;have m:(sortWorldK ky 2 w b 0 n d' os).heap=(w.heap.modify b (onCells (putCells id 0 (flatK ky 2 d'))))++os:=rfl;have p:(w.heap.modify b (onCells (putCells id 0 (flatK ky 2 d')))).size=w.heap.size:=by simp
  refine⟨⟨rfl,rfl,rfl,by rw[m,yB,p];omega⟩,[],rfl,?_⟩;rw[m];have B:Ext F w.heap ((w.heap.modify b (onCells (putCells id 0 (flatK ky 2 d'))))++os):=by
   refine⟨by rw[yB,p];omega,λq hq V=>?_⟩;rw[td (by rw[p];exact hq),ui,zB λ(e:b=q)=>V (by rw[←e];exact hF)]
  refine hR (d'.toList.map sM) _ ?_ ?_ B ⟨?_,.inr ⟨b,(putCells id 0 (flatK ky 2 d') cs.toArray).toList,hF,ha,⟨ty,?_⟩,hle,?_,?_⟩⟩
  ·rw[←u];exact r.map _
  ·rw[pf];rw[k6];intro i j hi hj hij;have D:=L i j O hij (by simp only[vC]at hj;simp only[xG];omega);rw[getElem!_pos d' i (by simpa using hi),getElem!_pos d' j (by simpa using hj)]at D;have D:=vY D;unfold oS at D;simp only[sM,Array.getElem_toList];omega
  ·rw[KH,zl,vC,g];omega
  ·rw[td (by rw[p];exact C),ui,zC rfl,E];simp[onCells]
  ·simp[putCells,hcl]
  ·rw[KH,zl,vC,g];apply zr;intro j;rw[zk];by_cases hj:j<l.length*2
   ·rw[zC hj,CV d'.toList j (by simpa[g]using hj)];have G:j<cs.length:=by
     have:l.length*2<=s.cap*2:=kS _ O;omega
    simp only[putCells,vW,Array.getElem?_mapIdx,List.getElem?_toArray,cU G,zZ];rw[zC ⟨O,by rw[size_flatK,g];omega⟩];simp
   ·rw[zB hj,zW (by rw[KH,zl,vC,g];omega)]
end Go.Ar
namespace Go.Proofs
open Go.Vc
set_option maxRecDepth 100000
def XM.h:Hn:=.q .o2 (.q (.q (.cQ (.seq [.op,.op,.op,.cW false 3 (RI.ops 3)])) .aK) (.q .o3 (.q (.q .o2 .aK) (.q (.q .o1 (.k (.loop [(8,.I)] (.q (.q .o4 (.c .l .l)) (.q (.k .o6) .o3))))) .aL))))
def XM.v (a b c d e f:Int)(g:Sl)(h:Int)(i:Hp)(j:Option Addr->Hp->Prop):Prop:=aV #[.I a,.I b,.I c,.I d,.I e,.I f] 25 i λk l=>aQ k 0 l λm=>aQ k 1 l λn=>aQ k 2 l λo=>aQ k 3 l λp=>aQ k 4 l λq=>aQ k 5 l λr=>WK.c m n o p q r l λs t=>bW (λu v=>If u (j none v) (aQ k 0 v λw=>aQ k 1 v λx=>aQ k 2 v λy=>aQ k 3 v λz=>aQ k 4 v λaa=>aQ k 5 v λab=>Xw.c w x y z aa ab v λac ad=>If ac.isNone (j none ad) (XW [bN] (λae=>ae 0 ad) λaf (ag:Int) ah=>If (ag<((g.len:Nat):Int)) (Ix g.a g.len ag 8 λai=>aQ ai 0 ah λaj=>aQ ai 1 ah λak=>aQ ai 2 ah λal=>aQ ai 3 ah λam=>aQ ai 4 ah λan=>aQ ai 5 ah λao=>aQ ai 6 ah λap=>bC ai 7 ah λaq=>Xk.c ac aj ak al am an ao ap aq ah λar au=>bL (ag+1) λav=>af av au) (j ac ah)))) λaw=>If s (aw true t) (XP.c g h t λax ay=>aw ax ay)
theorem XM.o {a b c d e f g h i j}(k:XM.v a b c d e f g h i j):XM.c a b c d e f g h i j:=Wa Tryz.func11 (x:=XM.h) (R0 k)
def XP.h:Hn:=.q .o1 (.q .o5 .l)
def XP.v (a:Sl)(b:Int)(c:Hp)(d:aO):Prop:=d (decide (((a.len:Nat):Int)>b)) c
theorem XP.o {a b c d}(e:XP.v a b c d):XP.c a b c d:=Wa Tryz.func12 (x:=XP.h) (R0 e)
def Wz.h:Hn:=.q .o1 (.q .o2 (.q (.q .o2 .aK) (.q .o7 (.q (.q (.cQ (.seq [.op,.op,.op,.cW false 2 [.op,.op]])) .aK) (.q .o7 (.q (.q (.cQ (.seq [.op,.op,.op,.cW false 2 [.op,.op],.op,.cW false 3 (RI.ops 3)])) .aK) (.q .o8 (.q (.q (.cQ (.seq [.op,.op,.op,.cW false 4 (RI.ops 4),.op,.cW false 4 (RI.ops 4),.op,.cW false 3 (RI.ops 3)])) .aK) (.q .o6 (.q (.cQ (.seq [.op,.op,.op,.cW true 2 [.op,.op],.op,.cW true 4 (RI.ops 4),.op,.cW true 4 (RI.ops 4),.op])) .l))))))))))
def Wz.v (a:Hp)(b:aO):Prop:=Xu.c a λc d=>If c.isNone (b false d) (QG.c c d λe f g=>bW (λh i=>If h (b false i) (Xt.c e 0 24 8 i λj k l=>bW (λm n=>bW (λo p=>If o (b false p) (W7.c e j p λq r s=>bW (λt u=>bW (λv w=>bW (λx y=>If x (b false y) (Xo.c e 4128 7 y λz aa=>Xo.c e 4136 7 aa λab ac=>bW (λad ae=>bW (λaf ag=>bW (λah ai=>b ah ai) λaj=>If af (Wy.c e 0 j ag λak al=>aj (ak==9) al) (aj false ag)) λam=>If ad (Wy.c e 0 j ae λan ao=>am (an==0) ao) (am false ae)) λap=>If (z==0) (ap (ab==7) ac) (ap false ac))) λaq=>If v (aq true w) (WN.c c 4136 (-4137) w λar au=>aq (ar != 0) au)) λav=>If t (av true u) (Wy.c e 0 j u λaw ax=>av (aw != 10) ax)) λay=>If (r != 0) (ay true s) (aV #[.I 4136] 3 s λaz a0=>WS.c q ⟨some az,1,1⟩ a0 λa1 a2=>ay (!a1) a2))) λa3=>If m (a3 true n) (WN.c c 4136 5 n λa4 a5=>a3 (a4 != 0) a5)) λa6=>If (j != 4112) (a6 true l) (a6 (k != 0) l))) λa7=>If (f != 0) (a7 true g) (a7 e.isNone g))
theorem Wz.o {a b}(c:Wz.v a b):Wz.c a b:=Wa Tryz.func13 (x:=Wz.h) (R0 c)
def YK.h:Hn:=.q .o2 (.q (.q (.cQ (.seq [.op,.op,.op,.op,.cW false 3 (RI.ops 3)])) (.c (.q .o3 .l) .l)) (.q (.oq 12) .l))
def YK.v (a:Sl)(b c d e f g h:Int)(i:ByteArray)(j:Hp)(k:aN):Prop:=aV #[.I b,.I c,.I d,.I e,.I f,.I g,.I h,.string i] 44 j λl m=>aQ l 4 m λn=>bW (λo p=>If o (aQ l 5 p λq=>k q p) (aQ l 4 p λr=>Nz ((a.len:Nat):Int) <| Ix a.a a.len (r.tmod ((a.len:Nat):Int)) 1 λs=>bM s p λt=>aQ l 5 p λu=>bL (t+u) λv=>k v p)) λw=>If (n<0) (w true m) (w (((a.len:Nat):Int)==0) m)
theorem YK.o {a b c d e f g h i j k}(l:YK.v a b c d e f g h i j k):YK.c a b c d e f g h i j k:=Wa Tryz.func18 (x:=YK.h) (R0 l)
def Xk.h:Hn:=.q .o2 (.q (.cQ (.tail 5 (RI.ops 5) [.op,.op])) (.q (.q .o2 (.k (.q .o2 (.c (.q (.cQ (.held true [10] (.tk [0,1,2,3,4,5,6,7,8,9] (.all [(10,.tk [11,12,13,14,15] (.done))])))) (.q (.q .o2 (.c (.q (.o 11) (.cQ (.held true [15] (.tk [0,1,2,3,4,5,6,7,8,9,10] (.all [(11,.all [(12,.take 13 (.take 14 (.all [(15,.done)])))])]))))) .l)) .aL)) (.kA [(69,.one .b)] (.q .o2 (.c .l .o2)) (.c (.q (.cQ (.tail 7 (RI.ops 7) [.op,.op])) (.q (.q .o2 (.c (.q .o1 (.q (.q .o1 (.k (.loop [(9,.one .s),(10,.I)] (.q (.q .o7 (.c .l .l)) (.q (.k (.q .fP (.c (.o 11) .l))) .o3))))) .o5)) .l)) .aL)) (.q .o2 (.c (.q (.o 11) .aL) (.q .o2 (.c .o5 (.q .o2 (.c (.q (.o 11) .aL) (.q .o2 (.c (.q (.cQ (.tail 7 (RI.ops 7) [.op,.op])) .l) (.q .o2 (.c (.q (.o 12) .aL) .l)))))))))))))))) .aM))
def Xk.v (a:R2)(b c d e f g h:Int)(i:ByteArray)(j:Hp)(k:aN):Prop:=aV #[.I b,.I c,.I d,.I e,.I f,.I g,.I h,.string i] 44 j λl m=>bE a 1 m λo=>aQ l 0 m λp=>aQ l 1 m λq=>aQ l 2 m λr=>aQ l 3 m λs=>aQ l 4 m λt=>aQ l 5 m λu=>aQ l 6 m λv=>bC l 7 m λw=>YK.c o p q r s t u v w m λx y=>aQ l 0 y λz=>If (z==20) (dY y λaa=>bV a λab=>aU aa ab 0 λac=>aS aa l 1 λad=>aS aa l 2 λae=>aS aa l 3 λaf=>Xt.c ac ad ae af y λag ah ai=>If (ah==0) (bE a 1 ai λak=>aV #[.I ag] 3 ai λal am=>App ak 1 8 3 [.I 0] ⟨some al,1,1⟩ am λan ao=>bV a λap=>aR ap 1 (.slice an.a an.len an.cap) ao λaq=>dY aq λar=>bV a λau=>aT ar au 2 λav=>aS ar l 2 λaw=>aS ar l 3 λax=>aV #[.I ag,.I aw,.I ax] 60 aq λay az=>And (ar az) <| App av 3 24 60 [.I 0,.I 0,.I 0] ⟨some ay,1,1⟩ az λa0 a1=>And (ar a1) <| bV a λa2=>aR a2 2 (.slice a0.a a0.len a0.cap) a1 λa3=>k ah a3) (k ah ai)) (Jn [.b] (λ(a4:Bool) a5=>If a4 (bF a 0 a5 λa7=>aQ l 1 a5 λa8=>Wy.c a7 a8 x a5 λa9 ba=>If (a9==0) (XW [.s,bN] (λbb=>bb ⟨none,0,0⟩ 0 ba) λbc (bd:Sl) (be:Int) bf=>bE a 2 bf λbh=>
 If (be<((bh.len:Nat):Int)) (bE a 2 bf λbj=>Ix bj.a bj.len be 3 λbk=>aQ bk 0 bf λbl=>If (bl != x) (bE a 2 bf λbn=>Ix bn.a bn.len be 3 λbo=>aQ bo 0 bf λbp=>aQ bo 1 bf λbq=>aQ bo 2 bf λbr=>aV #[.I bp,.I bq,.I br] 60 bf λbs bt=>App bd 3 24 60 [.I 0,.I 0,.I 0] ⟨some bs,1,1⟩ bt λbu bv=>bL (be+1) λbw=>bc bu bw bv) (bL (be+1) λbx=>bc bd bx bf)) (bV a λbz=>aR bz 2 (.slice bd.a bd.len bd.cap) bf λb0=>k a9 b0)) (k a9 ba)) (If (z==23) (bF a 0 a5 λb2=>W7.c b2 x a5 λb3 b4 b5=>k b4 b5) (If (z==24) (bF a 0 a5 λb7=>XC.c b7 a5 λb8 b9=>k 0 b9) (If (z==25) (bF a 0 a5 λcb=>YL.c cb x a5 λcc cd ce=>k cd ce) (If (z==26) (bF a 0 a5 λcg=>aQ l 6 a5 λch=>Xo.c cg x ch a5 λci cj=>k ci cj) (If (z==27) (bF a 0 a5 λcl=>YN.c cl x a5 λcm cn co cp cq cr=>aV #[.I 0,.I 0,.I 0,.I 0] 52 cr λcs ct=>aR cs 0 (.I cm) ct λcu=>aR cs 1 (.I cn) cu λcv=>aR cs 2 (.I co) cv λcw=>aR cs 3 (.I cp) cw λcx=>k cq cx) (k 0 a5))))))) λcy=>If (z==21) (cy (z==21) y) (cy (z==22) y))
theorem Xk.o {a b c d e f g h i j k}(l:Xk.v a b c d e f g h i j k):Xk.c a b c d e f g h i j k:=Wa Tryz.func19 (x:=Xk.h) (R0 l)
def XL.h:Hn:=.q .o2 (.q (.cQ (.held true [] (.take 0 (.take 2 (.all [(1,.all [(3,.all [(4,.take 5 (.done))])])]))))) (.q .o9 .l))
def XL.v (a b c d e:Int)(f:Hp)(g:aN):Prop:=aV #[.I a,.I b,.I c,.I d] 52 f λh i=>dY i λj=>aS j h 0 λk=>aS j h 1 λl=>aS j h 2 λm=>aS j h 3 λn=>aS j h 0 λo=>aS j h 1 λp=>aS j h 2 λq=>aS j h 3 λr=>Xv.c k l m n i λs t=>And (j t) <| XO.c o p q r t λu v=>And (j v) <| App s 1 8 3 [.I 0] u v λw x=>And (j x) <| bL e λy=>Nz ((w.len:Nat):Int) <| Ix w.a w.len (y.tmod ((w.len:Nat):Int)) 1 λz=>bM z x λaa=>g aa x
theorem XL.o {a b c d e f g}(h:XL.v a b c d e f g):XL.c a b c d e f g:=Wa Tryz.func26 (x:=XL.h) (R0 h)
def Xh.h:Hn:=.q .o1 (.q .o1 (.q .o3 (.q (.q .o1 (.k (.loop [(3,.one .s),(5,.I)] (.q (.q .o4 (.c .l .l)) (.q (.k (.q (.cQ (.held true [11] (.tk [0,1,2,3,4,5,6,7,8,9,10] (.all [(11,.all [(12,.take 13 (.done))])])))) (.q .o6 (.k (.loop [(3,.one .s),(6,.I)] (.q (.q (.oq 14) (.c .l .l)) (.q (.k (.q .o8 .o5)) .o3))))))) .o3))))) .aL)))
def Xh.v (a:R2)(b:Hp)(c:Sl->Hp->Prop):Prop:=Zr.c a b λd e=>XW [.s,bN] (λf=>f ⟨none,0,0⟩ 0 e) λg (h:Sl) (i:Int) j=>If (i<((d.len:Nat):Int)) (dY j λk=>Ix d.a d.len i 4 λl=>aS k l 0 λm=>Ix d.a d.len i 4 λn=>aS k n 1 λo=>aV #[.I m,.I o] 3 j λp q=>App h 1 8 3 [.I 0] ⟨some p,2,2⟩ q λr s=>Ix d.a d.len i 4 λt=>aQ t 0 s λu=>XW [.s,bN] (λv=>v r u s) λw (x:Sl) (y:Int) z=>bL (y+8) λaa=>Ix d.a d.len i 4 λab=>aQ ab 0 z λac=>Ix d.a d.len i 4 λad=>aQ ad 1 z λae=>bL (ac+ae) λaf=>If (aa<=af) (Yq.c a y z λag ah ai=>aV #[.I ag] 3 ai λaj ak=>App x 1 8 3 [.I 0] ⟨some aj,1,1⟩ ak λal am=>bL (y+8) λan=>w al an am) (bL (i+1) λao=>g x ao z)) (c h j)
theorem Xh.o {a b c}(d:Xh.v a b c):Xh.c a b c:=Wa Tryz.func28 (x:=Xh.h) (R0 d)
def Xu.h:Hn:=.q .o1 (.q .o4 .l)
def Xu.v (a:Hp)(b:Option Addr->Hp->Prop):Prop:=Wv.c 8 64 1 1 1024 2 a λc d=>b c d
theorem Xu.o {a b}(c:Xu.v a b):Xu.c a b:=Wa Tryz.func37 (x:=Xu.h) (R0 c)
def WK.h:Hn:=.q .o2 (.q .o5 .l)
def WK.v (a b c d e f:Int)(g:Hp)(h:aO):Prop:=aV #[.I a,.I b,.I c,.I d,.I e,.I f] 25 g λi j=>bM ((i.add 1).add 0) j λk=>h (decide (k>128)) j
theorem WK.o {a b c d e f g h}(i:WK.v a b c d e f g h):WK.c a b c d e f g h:=Wa Tryz.func38 (x:=WK.h) (R0 i)
def Xw.h:Hn:=.q .o2 (.q .o3 (.q (.q .o2 .aK) (.q .o7 (.q (.q (.cQ (.seq [.op,.op,.op,.cW false 2 [.op,.op]])) .aK) (.q .o4 .l)))))
def Xw.v (a b c d e f:Int)(g:Hp)(h:Option Addr->Hp->Prop):Prop:=aV #[.I a,.I b,.I c,.I d,.I e,.I f] 25 g λi j=>aQ i 0 j λk=>aQ i 1 j λl=>aQ i 2 j λm=>aQ i 3 j λn=>aQ i 4 j λo=>aQ i 5 j λp=>Wv.c k l m n o p j λq r=>If q.isNone (h none r) (QG.c q r λs t u=>bW (λv w=>If v (h none w) (aV #[.pointer s,.slice none 0 0,.slice none 0 0] 37 w λx y=>h (some x) y)) λz=>If (t != 0) (z true u) (z s.isNone u))
theorem Xw.o {a b c d e f g h}(i:Xw.v a b c d e f g h):Xw.c a b c d e f g h:=Wa Tryz.func39 (x:=Xw.h) (R0 i)
def Wv.h:Hn:=.q .o2 (.q .o8 (.q .o9 (.q (.q .o2 .aK) .aL)))
def Wv.v (a b c d e f:Int)(g:Hp)(h:Option Addr->Hp->Prop):Prop:=aV #[.I a,.I b,.I c,.I d,.I e,.I f] 25 g λi j=>aQ i 0 j λk=>WT.c k j λl m n=>bM ((i.add 1).add 0) n λo=>bM ((i.add 1).add 1) n λp=>bM ((i.add 1).add 2) n λq=>bM ((i.add 1).add 3) n λr=>bM ((i.add 1).add 4) n λs=>KF.c l o p q r s n λt u v=>If (u != 0) (h none v) (h t v)
theorem Wv.o {a b c d e f g h}(i:Wv.v a b c d e f g h):Wv.c a b c d e f g h:=Wa Tryz.func69 (x:=Wv.h) (R0 i)
end Go.Proofs
namespace Go.Ar
open Go Go.Vc Go.Proofs
variable {U w w':Hp}{F P Q:Rg}{L:dI}{H H':Hw}{held:List Pc}{s0:Sp}{t n:Nat}{g:Th}
structure eY where
 kd:Int
 th:Int
 a:Int
 b:Int
 of:Int
 pl:Int
 va:Int
 s:ByteArray
def re (d:eY):List Value:=[.int .i64 d.kd,.int .i64 d.th,.int .i64 d.a,.int .i64 d.b,.int .i64 d.of,.int .i64 d.pl,.int .i64 d.va,.string d.s]
def jO (x:Int):Prop:=-9223372036854775808<=x/\x<=9223372036854775807
structure lT (d:eY):Prop where
 a:jO d.a
 b:jO d.b
 pl:jO d.pl
 va:jO d.va
structure jv (U:Hp) (sl:Sl) (ds:List eY):Prop where
 len:sl.len=ds.length
 at_:∀(i:Nat) (d:eY),ds[i]?=some d->∃b o,sl.a=some ⟨b,o,none⟩/\b<U.size/\∀(j:Nat) v,(re d)[j]?=some v->cell U ⟨b,o+i*8+j,none⟩=some v
 i:∀d∈ds,lT d
 yp:ds.length<=9223372036854775807
theorem jv.bO {sl:Sl}{ds:List eY}(h:jv U sl ds)(e:aG U w):jv w sl ds:=⟨h.len,λi d r=>by
 obtain⟨b,o,g,m,a⟩:=h.at_ i d r;exact⟨b,o,g,by have:=e.1;omega,λj v p=>by rw[Q9 e m id];exact a j v p⟩,h.i,h.yp⟩
theorem jv.rd {sl:Sl}{ds:List eY}(h:jv U sl ds)(e:aG U w){i:Nat}{d:eY}(hx:ds[i]?=some d){K:Addr->Prop}(hK:∀b o,(∀w',aG U w'->∀(j:Nat) v,(re d)[j]?=some v->cell w' ⟨b,o+j,none⟩=some v)->K ⟨b,o,none⟩):Ix sl.a sl.len (i:Int) 8 K:=by
 obtain⟨b,o,p,r,m⟩:=h.at_ i d hx;have x:=(cX.1 hx).1;have g:=h.len;rw[p];refine ix O O ?_;rw[add_lit,dD];exact hK b _ λw' u j v s=>by rw[Q9 u r id];exact m j v s
theorem y6 {b o i:Nat}{h:Hp}{x:ByteArray}{K:ByteArray->Prop}(hc:cell h ⟨b,o+i,none⟩=some (.string x))(hK:K x):we (Addr.add ⟨b,o,none⟩ i) h K:=⟨x,by rw[add_lit];exact hc,hK⟩
theorem _root_.Go.Vc.bY.rT {b o i:Nat}{cs:List Value}(hb:bY U b cs){x:ByteArray}{K:ByteArray->Prop}(hc:cs[o+i]?=some (.string x))(hK:K x):we (Addr.add ⟨b,o,none⟩ i) U K:=⟨x,by rw[add_lit,hb.cell];exact hc,hK⟩
def rk (ad:List Int)(d:eY):Int:=if d.of<0\/ad=[]then d.pl else IntKind.i64.wrap (ad.getD (d.of.toNat%ad.length) 0+d.pl)
theorem Mf {ad:List Int}{d:eY}(h:lT d):jO (rk ad d):=by
 unfold rk;split
 ·exact h.pl
 ·exact Rw _
theorem Me {addrs:Sl}{ad:List Int}(hs:cT addrs 1 (Wj ad) U F)(d:eY){R:aN}(hR:∀σ',aG U σ'->R (rk ad d) σ'):YK.c addrs d.kd d.th d.a d.b d.of d.pl d.va d.s U R:=by
 refine YK.o ?_;unfold YK.v;have z:addrs.len=ad.length:=by have:=hs.1;simp[Wj]at this;omega
 refine nw (cs:=re d) λv D e j=>j.rI rfl (KY (λr w=>w=v/\r=decide (d.of<0\/ad=[])) (λr w ⟨B,y⟩=>?_) λJ A=>cP (λp=>A _ _ ⟨rfl,by rw[zJ (.inl p)]⟩) λp=>A _ _ ⟨rfl,?_⟩)
 ·subst B;have g:=hR w e;by_cases hc:d.of<0\/ad=[]
  ·refine cC (by rw[y];exact zJ hc) (j.rI rfl ?_);unfold rk at g;rw[zC hc]at g;exact g
  ·have i:0<ad.length:=qe.2 λh=>hc (.inr h);refine cB (by rw[y];exact zN hc) (j.rI rfl (nz O ?_));have x:0<=d.of:=by omega
   have C:d.of.tmod (addrs.len:Int)=((d.of.toNat%ad.length:Nat):Int):=by
    rw[Qq x,z,Int.natCast_emod,Int.toNat_of_nonneg x]
   rw[C];have m:d.of.toNat%ad.length<ad.length:=uP _ i;have u:ad[d.of.toNat%ad.length]?=some ad[d.of.toNat%ad.length]:=cU m;refine(cT.loc _ _ _ |>.bO (aH.cut hs) e).mI u (j.rI rfl (xT ?_));unfold rk at g;rw[zB hc,zP,u]at g;exact g
 ·rw[z];rw[l9];simp only[zT,zU];constructor
  ·intro h;exact .inr (xm.1 O)
  ·rintro(h|h)
   ·exact(p h).elim
   ·rw[h];rfl
theorem LC {l:Sl}{most:Int}{R:aO}(hR:R (decide ((l.len:Int)>most)) U):XP.c l most U R:=by
 refine XP.o ?_;unfold XP.v;exact hR
theorem RO {xs:List (Int×Int×Int)}(h:Qp xs=true):(xs.map Z9).map mi=xs:=by
 rw[lx]
 conv=>rhs;rw[←uM xs]
 apply kh;intro t ht;obtain⟨i,b⟩:=zQ ht;have:=((Qk xs).1 h).2.2.1 i t b;obtain⟨c,_,g,d,a,e⟩:=GU this;simp only[Function.comp,id];rw[show Z9 t=c from g];unfold mi;rw[←d,←a,←e]
theorem Rl {xs:List (Int×Int×Int)}(h:Qp xs=true):(xs.map Z9).length<=40/\∀c∈xs.map Z9,c.ok:=by
 refine⟨by have:=((Qk xs).1 h).2.1;simpa using this,λc e=>?_⟩;obtain⟨t,d,rfl⟩:=zE.1 e;obtain⟨i,b⟩:=zQ d;have:=((Qk xs).1 h).2.2.1 i t b;obtain⟨c,a,g,_⟩:=GU this;rw[show Z9 t=c from g];exact a
structure sU (H:Hw) (aF:Int):Prop where
 hi:HI H [] (Vr H.cf.aF)
 cf:j0 H
 pg:(H.cf.aF:Int)=aF
 live:H.live=[]
 ph:∀g∈H.bQ,g.ph=none
 th:1<=H.cf.threads
theorem Im {xs:List (Int×Int×Int)}{p a t b r:Int}(h:Qp xs=true)(hc:sd p a t b r=true):sU (V0 (xs.map Z9) ⟨p.toNat,a.toNat,t.toNat,b.toNat,r.toNat⟩) p:=by
 obtain⟨⟨w,s,m⟩,⟨y,u⟩,⟨x,j⟩,_⟩:=(ES p a t b r).1 hc;obtain⟨e,d⟩:=Rl h;refine⟨Oi (cf:=⟨p.toNat,a.toNat,t.toNat,b.toNat,r.toNat⟩) aC aC aC aC e d,⟨by simp only[V0];omega,by simp[V0],?_⟩,by simp only[V0];omega,rfl,λg i=>by rw[zx i],by simp only[V0];omega⟩;show Qp ((xs.map Z9).map mi)=true;rw[RO h];exact h
theorem Mh (g:Gl U)(gd:Gd U)(b b1 b2 b3 b4 b5:Int){R:Option Addr->Hp->Prop}(h0:∀σ',aG U σ'->R none σ')
 (h1:∀σ' L N H,aG U σ'->U.size<=N->N<=σ'.size->HH σ' (λb=>N<=b) L H->sU H b1->R (some ⟨L.p,0,none⟩) σ'):Wv.c b b1 b2 b3 b4 b5 U R:=by
 refine Wv.o ?_;unfold Wv.v;refine nw (cs:=[.int .i64 b,.int .i64 b1,.int .i64 b2,.int .i64 b3,.int .i64 b4,.int .i64 b5]) λv E e j=>j.rI rfl ?_;by_cases hw:2<=b/\b<=16
 ·refine DU b hw.1 hw.2 λs B e1 w=>?_;have a:=e1.bT j id;have d:=e.trans e1;have m:Qp (qv b)=true:=by
   have:=Gg b.toNat O O;rw[show((b.toNat:Nat):Int)=b by omega]at this;exact this
  refine a.eZ rfl (a.eZ rfl (a.eZ rfl (a.eZ rfl (a.eZ rfl ?_))));refine AP w (g.bO d) (gd.bO d) b1 b2 b3 b4 b5 (λr=>by rw[m]at r;cases r) (λ_ A u e2=>?_) λ_ A u L e2 D=>?_
  ·exact cC rfl (h0 u (d.trans e2))
  ·exact cB rfl (h1 u L B.size _ (d.trans e2) d.1 e2.1 D (Im m A))
 ·refine OA b O (j.eZ rfl (j.eZ rfl (j.eZ rfl (j.eZ rfl (j.eZ rfl ?_)))));have w:ig v ⟨none,0,0⟩ []:=⟨rfl,λi x y z C=>by simp at C⟩;refine AP w (g.bO e) (gd.bO e) b1 b2 b3 b4 b5 (λ_ u e2=>cC rfl (h0 u (e.trans e2))) (λm=>?_) λm=>?_
  ·exact absurd m aB
  ·exact absurd m aB
def Safe (H:Hw)(d:eY)(x:Int)(e:Int×Bk):Prop:=(∀j,fH H j≠some (.find e.1))/\¬((d.kd=3\/d.kd=1\/d.kd=6)/\e.1<=x/\x<e.1+e.2.2.1)
structure nE (H:Hw) (d:eY) (x:Int) (H':Hw):Prop where
 hi:∃held s0,HI H' held s0
 kp:QA H' H
 fx:∀e∈H.live,Safe H d x e->e∈H'.live/\(∀w:Nat,e.1<=((8*w:Nat):Int)->((8*w:Nat):Int)<e.1+e.2.2.1->H'.sp.wd w=H.sp.wd w)/\∀j,fH H' j≠some (.find e.1)
theorem nE.same (h:HI H held s0)(d:eY)(x:Int):nE H d x H:=⟨⟨_,_,h⟩,QA.refl _,λe b a=>⟨b,λ_ _ _=>rfl,a.1⟩⟩
theorem nE.op (h:HI H held s0){d:eY}{x:Int}(o:gg H H')(hl:∀e∈H.live,Safe H d x e->e∈H'.live):nE H d x H':=
 ⟨o.hi,o.kp,λe b a=>⟨hl e b a,h.kl o.ks e b,λj=>by rw[o.ph];exact a.1 j⟩⟩
theorem nE.ar {d:eY}{x:Int}(o:mA H H'):nE H d x H':=
 ⟨o.hi,o.kp,λe a b=>⟨by rw[o.live];exact a,o.kl e a,λj=>by unfold fH;rw[o.bQ];exact b.1 j⟩⟩
theorem HI.iW (h:HI H held s0){e:Int×Bk}(he:e∈H.live):8<=e.2.2.1/\0<=e.1/\e.1%8=0/\e.2.2.1%8=0/\e.1+e.2.2.1<=270000:=by
 obtain⟨_,p,d,K,J,z,B,_⟩:=h.lv e he;have G:=h.yl.size_pos d;have D:=h.yl.jI d;obtain⟨A,x,hd⟩:=h.yl.hf p d;have C:p.addr%8=0:=by
  rcases hd with⟨_,_,r,hr,c2,c3⟩|⟨j,c,c1,c2,c3,c4,_⟩
  ·omega
  ·obtain⟨a,u,b,w⟩:=c4;have:a=c:=Option.some.inj (b.1.symm.trans c2);subst this;have m:=(h.yl.ga _ A x).cE j a u b;obtain⟨l,s,i,F,E,e,_⟩:=(VH m).1 w;have g:=m.ok;unfold bZ.ok at g;unfold at_ at e;have y:a.size=8*(a.size/8):=by omega
   have:i*a.size=8*(i*(a.size/8)):=by rw[Nat.mul_left_comm,←y]
   omega
 omega
theorem nE.write (h:HI H held s0){d:eY}{x:Int}(hd:d.kd=3)(v:Int):nE H d x {H with sp:=W5 H.sp x v}:=by
 refine⟨⟨_,_,h.write x v⟩,⟨rfl,rfl,rfl,rfl⟩,λe b a=>⟨b,λw m g=>?_,a.1⟩⟩;have i:=h.iW b;rw[(Un H.sp x v).2.2,zB];rintro⟨h0,hw⟩;have j:=IQ h0;exact a.2 ⟨.inl hd,O,O⟩
theorem nE.free (h:HI H held s0){d:eY}{x thread e:Int}(hd:d.kd=1)(o:gg H H')(hf:pa H thread x H' e):nE H d x H':=by
 refine nE.op h o λj a g=>?_;have i:=h.iW a;rcases hf with⟨_,h2,_⟩|⟨_,_,_,h4⟩|⟨_,b,_,_,h4⟩
 ·rw[h2];exact a
 ·rw[h4];exact a
 ·rw[h4];refine GK.2 ⟨a,λm=>g.2 ⟨.inr (.inl hd),O,O⟩⟩
theorem nE.step (h:HI H held s0){d:eY}{x:Int}(hg:H.bQ[t]?=some g){p:Ph}(hp:g.ph=some p):nE H d x (QE H t p):=by
 have G:=(cX.1 hg).1;have s:=h.NA hg hp;have w:fH H t=some p:=by unfold fH;rw[hg];exact hp
 have live:∀e∈H.live,p≠.find e.1->e∈(QE H t p).live:=λe i C=>by
  by_cases hf:lA p
  ·obtain⟨_,_,_,J,r⟩:=qm h hg hp hf;by_cases u:∃y,p=.find y
   ·obtain⟨y,rfl⟩:=u;cases hm:bU H.live y with
    | none=>rw[((r y rfl).1 hm).2.2];exact i
    | some b=>
     rw[((r y rfl).2 b hm).2];exact GK.2 ⟨i,λa=>C (by rw[a])⟩
   ·rw[(J λy a=>u ⟨y,a⟩).2];exact i
  ·obtain⟨cl,K,z⟩:=Ae h hg hp hf;obtain⟨_,m⟩:=qH h hg hp z;rcases m with⟨_,_,_,e2,_⟩|⟨_,_,_,e4⟩|⟨_,_,e3,e4⟩
   ·rw[e2];exact i
   ·rw[e4];exact i
   ·rw[e4];exact(GN e3).2 (.inl i)
 have B:∀y,(Wt H t p).2.1≠some (.find y):=λy a=>by
  by_cases hf:lA p
  ·obtain⟨_,_,m,_⟩:=qm h hg hp hf;rcases m with⟨p',E,e1,_,e3,_⟩|e1
   ·rw[e1]at a;exact e3 y (Option.some.inj a)
   ·rw[e1]at a;cases a
  ·obtain⟨cl,K,z⟩:=Ae h hg hp hf;obtain⟨_,m⟩:=qH h hg hp z;rcases m with⟨p',E,e1,_,_,e4,_⟩|⟨e1,_⟩|⟨e1,_⟩
   ·rw[e1]at a;cases a;exact e4.elim
   ·rw[e1]at a;cases a
   ·rw[e1]at a;cases a
 refine⟨s.hi,UE H t p,λe i F=>⟨live e i λu=>F.1 t (by rw[w,u]),h.kl s.ks e i,λj=>?_⟩⟩;by_cases hj:j=t
 ·subst hj;obtain⟨E,D,A⟩:=HD (p:=p) G;unfold fH;rw[D];show E.ph≠_;rw[A];exact B _
 ·unfold fH;rw[UB p hj];exact F.1 j
end Go.Ar
namespace Go.Ar
open Go Go.Vc Go.Proofs
variable {U w w':Hp}{F P Q X:Rg}{L:dI}{H H':Hw}{held:List Pc}{s0:Sp}{t n:Nat}{g:Th}
structure ie (σ0 U:Hp) (L:dI) (H:Hw) (held:List Pc) (s0:Sp) (P Q:Rg) (addrs:Sl) (ad:List Int):Prop where
 e:aG σ0 U
 h:HH U P L H
 hi:HI H held s0
 cf:j0 H
 pg:H.cf.aF<=128
 pP:∀b,P b->σ0.size<=b/\b<U.size
 pQ:∀b,Q b->σ0.size<=b/\b<U.size/\¬P b
 row:bR addrs 1 (Wj ad) U Q
 al:ad.length<=60
 g0:jc (λb=>σ0.size<=b)/\¬σ0.size<=1
variable {σ0:Hp}{addrs:Sl}{ad:List Int}
theorem ie.step (p:ie σ0 U L H held s0 P Q addrs ad){ts':List eL}(e:Ext P U w)(h':HH w (Grow P U) {L with ts:=ts'} H'){held':List Pc}{s0':Sp}(hi':HI H' held' s0')(k:QA H' H) :
 ie σ0 w {L with ts:=ts'} H' held' s0' (Cut (Grow P U) w) Q addrs ad:=by
 have s:=e.1;refine⟨Ext.dW p.e e λb a=>.inr (p.pP b a).1,h'.cut,hi',p.cf.bS k,by rw[k.2.1];exact p.pg,λb a=>⟨?_,a.2⟩,λb a=>?_,aI.bS p.row e λb _ j g=>(p.pQ b j).2.2 g,p.al,p.g0⟩
 ·have:=p.e.1;rcases a.1 with h1|h1
  ·exact(p.pP b h1).1
  ·omega
 ·obtain⟨i,r,d⟩:=p.pQ b a;exact⟨i,O,λm=>by
   rcases m.1 with h1|h1
   ·exact d h1
   ·omega⟩
theorem ie.out (p:ie σ0 U L H held s0 P Q addrs ad){T:Rg}(e:Ext T U w)(hT:∀b,b<U.size->T b->¬P b/\¬Q b/\σ0.size<=b):ie σ0 w L H held s0 P Q addrs ad:=by
 have r:=e.1;have g:Ext (λb=>T b/\b<U.size) U w:=⟨e.1,λb a i=>e.2 b a λd=>i ⟨d,a⟩⟩;refine⟨Ext.dW p.e g λb a=>.inr (hT b a.2 a.1).2.2,p.h.bS g (λb a j d=>(hT b a d.1).1 j) (λb a=>?_) (λa=>?_),p.hi,p.cf,p.pg,λb a=>⟨(p.pP b a).1,by have:=(p.pP b a).2;omega⟩,λb a=>⟨(p.pQ b a).1,by have:=(p.pQ b a).2.1;omega,(p.pQ b a).2.2⟩,aI.bS p.row g λb a m d=>(hT b a d.1).2.1 m,p.al,p.g0⟩
 ·exact p.g0.1 b (hT b a.2 a.1).2.2
 ·exact p.g0.2 (hT _ a.2 a.1).2.2
theorem EW (hr:bR addrs 1 (Wj ad) U Q)(hl:ad.length<=1000000)(x:Int){e t:Nat}{K:Sl->Hp->Prop}(hK:∀s' w,Ext Q U w->bR s' 1 (Wj (ad++[x])) w (λb=>Q b\/U.size<=b/\b<w.size)->K s' w) :
 Nw (.cells #[.int .i64 x] t (0,0)) U λn v=>App addrs 1 8 e [.int .i64 0] ⟨some n,1,1⟩ v K:=by
 have m:addrs.len=ad.length:=by have:=hr.1;simp[Wj]at this;omega
 refine bR.push (F:=λb=>Q b\/U.size<=b) (vs:=[.int .i64 x]) (aI.mono hr λb _ a=>.inl a) (λb a=>.inr a) rfl rfl (by simp[dO]) O O λs' w j g i=>hK s' w ⟨g.1,λb a p=>g.2 b a λd=>d.elim p λd=>O⟩ ?_;have:Wj (ad++[x])=Wj ad++[.int .i64 x]:=by simp[Wj]
 rw[this];refine aI.mono (aI.cut i) λb a d=>?_;rcases d.1 with h1|h1
 ·exact .inl h1
 ·exact .inr ⟨h1,a⟩
end Go.Ar
namespace Go.Ar
open Go.Vc (bU dA cR)
def i63 (x:Int):Bool:=decide (x<=9223372036854775807)
def pW (H:Hw)(t:Nat):Ph->Bool
 | .take k=>decide (k<H.tb.length)&&(match Kh (H.cls k) ((H.jW t).li k)with
  | (some y,_)=>i63 y
  | (none,_)=>true)
 | .cI k _=>decide (k<H.tb.length)&&(Z6 (H.eD t) (k:Int) != 0 || !(Yy (H.eD t) (k:Int)).isEmpty)
 | .cJ _ _=>true
 | .grow _ _=>true
 | .fill=>match (H.jW t).bP with
  | (k,x::xs)::_=>decide (k<H.tb.length)&&(i63 x&&decide (((H.jW t).li k).os.length+xs.length<=256))
  | _=>false
 | .eJ m=>decide (Z5 (H.eD t) H.sp (m:Int) 1<=1000000)
 | .find x=>i63 x&&((bU H.live x).isSome&&decide (0<=x))
 | .put k _=>decide (k<H.tb.length) && !(H.jW t).bP.isEmpty
 | .back=>match (H.jW t).bP with
  | (_,xs)::_=>(xs.all λx=>i63 x&&decide (0<=XU H.bX x))&&decide (xs.length<=1000000)
  | _=>false
 | .dC _ a=>decide (0<=a)&&(decide (a.toNat<H.bX.length)&&H.bX.all λA=>A.runs.all λr=>decide (r.1<=1000000))
 | .drain=>true
theorem yx {x:Int}(h:i63 x=true):iG x:=by
 unfold i63 at h;unfold iG;exact rO h
theorem Po {H:Hw}{t:Nat}{p:Ph}(h:pW H t p=true):uS H t p:=by
 cases p with
 | take k=>
  simp only[pW,zF,zU]at h;refine⟨h.1,λy l i=>?_⟩;have g:=h.2;rw[i]at g;exact yx g
 | cI k w=>
  simp only[pW,zF,zU,nG]at h;refine⟨h.1,λu d=>?_⟩;rw[u,d]at h;simp at h
 | cJ k w=>trivial
 | grow k w=>trivial
 | fill=>
  simp only[pW]at h;split at h
  ·rename_i k x xs r hh;simp only[zF,zU]at h;exact⟨k,x,xs,r,hh,h.1,yx h.2.1,h.2.2⟩
  ·cases h
 | eJ m=>
  simp only[pW,zU]at h;exact h
 | find x=>
  simp only[pW,zF,zU]at h;exact⟨yx h.1,λj=>by rw[j]at h;simp at h,λb _=>h.2.2⟩
 | put k x=>
  simp only[pW,zF,zU]at h;exact⟨h.1,λd=>by rw[d]at h;simp at h⟩
 | back=>
  simp only[pW]at h;split at h
  ·rename_i k xs r hh;simp only[zF,zU,ke]at h;exact⟨k,xs,r,hh,λx e=>⟨yx (h.1 x e).1,(h.1 x e).2⟩,h.2⟩
  ·cases h
 | dC s a=>
  simp only[pW,zF,zU,ke]at h;exact⟨h.1,h.2.1,h.2.2⟩
 | drain=>trivial
def oR:Nat->Hw->Nat->Ph->Option (Hw×Int×Int)
 | 0,_,_,_=>none
 | n+1,H,t,p=>if pW H t p&&decide ((H.jW t).bP.length<=900)then(match (Wt H t p).2.1 with
  | none=>some (QE H t p,(Wt H t p).2.2.1,(Wt H t p).2.2.2)
  | some p'=>oR n (QE H t p) t p')else none
theorem Dd:∀{n:Nat} {H:Hw} {t:Nat} {p:Ph} {r:Hw×Int×Int},oR n H t p=some r->∃m,iE m H t p r.1 r.2.1 r.2.2
 | 0,_,_,_,_,h=>by simp[oR]at h
 | n+1,H,t,p,r,h=>by
  rw[oR]at h;split at h
  ·rename_i hc;simp only[zF,zU]at hc;have hok:uL H t p:=⟨Po hc.1,λg b=>by rw[←Gw b];exact hc.2⟩;split at h
   ·rename_i hn;cases h;exact⟨1,.done hok hn⟩
   ·rename_i p' hs;obtain⟨m,a⟩:=Dd h;exact⟨m+1,.next hok hs a⟩
  ·cases h
def yQ (H:Hw)(thread kind size align addr:Int):Option (Hw×Int×Int):=match Kv H thread kind size align addr with
 | .inl e=>if e=0 then none else some (H,0,e)
 | .inr (t,p)=>oR 40 (eO H t (some p)) t p
theorem Lc {H:Hw}{thread kind size align addr:Int}{r:Hw×Int×Int}(h:yQ H thread kind size align addr=some r):Uh H thread kind size align addr r.1 r.2.1 r.2.2:=by
 unfold yQ at h;split at h
 ·rename_i e he;split at h
  ·cases h
  ·rename_i hne;cases h;exact .inl ⟨he,hne,rfl,rfl⟩
 ·rename_i t p he;obtain⟨m,a⟩:=Dd h;exact .inr ⟨t,p,m,he,a⟩
def Ey:List bZ:=(qv 8).map Z9
def w0:Hw:=V0 Ey ⟨64,1,1,1024,2⟩
theorem vK:V0 ((qv 8).map Z9) ⟨(64:Int).toNat,(1:Int).toNat,(1:Int).toNat,(1024:Int).toNat,(2:Int).toNat⟩=w0:=rfl
end Go.Ar
namespace Go.Ar
open Go Go.Vc Go.Proofs
variable {U u u':Hp}{F:Rg}{L:dI}{H H':Hw}{N:Nat}
attribute [local irreducible] w0 Ey
theorem Pn (g:Gl U)(gd:Gd U){R:Option Addr->Hp->Prop}(hR:∀σ' L N,aG U σ'->U.size<=N->N<=σ'.size->HH σ' (λb=>N<=b) L w0->R (some ⟨L.p,0,none⟩) σ'):Xu.c U R:=by
 refine Xu.o ?_;unfold Xu.v;refine Wv.o ?_;unfold Wv.v;refine nw (cs:=[.int .i64 8,.int .i64 64,.int .i64 1,.int .i64 1,.int .i64 1024,.int .i64 2]) λv y e i=>i.rI rfl ?_;refine DU 8 aB aB λs r e1 u=>?_;have a:=e1.bT i id;have d:=e.trans e1;refine a.eZ rfl (a.eZ rfl (a.eZ rfl (a.eZ rfl (a.eZ rfl ?_))));refine AP u (g.bO d) (gd.bO d) 64 1 1 1024 2 (λm=>?_) (λ_ w=>?_) λ_ _ x L e2 j=>?_
 ·have:=Gg 8 aB aB;rw[show((8:Nat):Int)=8 from rfl]at this;rw[this]at m;cases m
 ·exact absurd w aB
 ·rw[vK]at j;exact cB rfl (hR x L r.size (d.trans e2) d.1 e2.1 j)
end Go.Ar
namespace Go.Proofs
open Go.Vc
set_option maxRecDepth 100000
def Xt.h:TX:=.nx (.o 3) (.nx (.seq (.o 3) (.cond (.seq (.o 2) (.leaf)) (.leaf))) (.nx (.seq (.cQ (.seq [.op,.op,.op,.cW false 2 [.op,.op],.op,.cW false 2 [.op,.op],.op,.cW false 2 [.op,.op],.op,.cW false 5 [.op,.op,.op,.op,.op]])) (.cond (.seq (.o 2) (.leaf)) (.leaf))) (.nx (.o 3) (.nx (.o 5) (.nx (.cQ (.held true [] (.take 0 (.take 1 (.take 2 (.take 3 (.take 4 (.take 5 (.take 6 (.take 10 (.all [(7,.take 8 (.take 9 (.all [(11,.take 12 (.take 13 (.take 14 (.take 15 (.take 16 (.done))))))])))]))))))))))) (.nx (.seq (.o 2) (.cond (.seq (.o 3) (.leaf)) (.leaf))) (.nx (.o 8) (.nx (.o 16) (.nx (.o 12) (.r1 (.o 2) bN (.block (.cQ (.held true [] (.take 0 (.take 1 (.take 2 (.take 3 (.take 4 (.take 5 (.all [(6,.all [(7,.done)])])))))))))) (.seq (.o 3) (.seq (.cQ (.held true [8] (.take 0 (.take 1 (.take 2 (.take 3 (.take 4 (.take 5 (.take 6 (.take 7 (.all [(8,.done)]))))))))))) (.seq (.o 5) (.leaf))))))))))))))
def Xt.v (a:R2)(b c d:Int)(e:Hp)(f:Int->Int->Hp->Prop):Prop:=aV #[.pointer a] 33 e λg h=>fW g h λi=>WG.c i h λj k=>If (!j) (f 0 5 k) (bW (λl m=>bW (λn o=>bW (λp q=>bW (λr s=>If r (f 0 1 s) (aV #[.I 0,.I 0,.I 0,.I 0,.I 0] 95 s λt u=>aR t 0 (.I 0) u λv=>aR t 1 (.I c) v λw=>aR t 2 (.I 0) w λx=>aR t 3 (.I 0) x λy=>aR t 4 (.I 0) y λz=>dY z λaa=>gG aa .p g λ(ab:R2)=>bV ab λac=>aU aa ac 0 λad=>aS aa t 0 λae=>aS aa t 1 λaf=>aS aa t 2 λag=>aS aa t 3 λah=>aS aa t 4 λai=>Xn.c ae af ag ah ai z λaj ak=>And (aa ak) <| bL ((if 16>d then 16 else d)+aj) λal=>bL (al+16) λam=>YV.c ad b am (if 16>d then 16 else d) ak λan ao ap=>And (aa ap) <| If (ao != 0) (f 0 ao ap) (fW g ap λaq=>bD aq 3 ap λau=>bL (au+1) λav=>bV aq λaw=>aR aw 3 (.I av) ap λax=>fW g ax λay=>bD ay 3 ax λa0=>bL (an+(if 16>d then 16 else d)) λa1=>aR t 4 (.I a0) ax λa2=>dU ((t.add 0).add 2) (.I an) a2 λa3=>dU ((t.add 0).add 0) (.I a1) a3 λa4=>fW g a4 λa5=>bF a5 0 a4 λa7=>Xx.c a7 an a4 λa8 a9 ba=>dU ((t.add 0).add 3) (.I a8) ba λbb=>aQ t 0 bb λbc=>aQ t 1 bb λbd=>aQ t 2 bb λbe=>aQ t 3 bb λbf=>aQ t 4 bb λbg=>
 XH.c bc bd be bf bg bb λbh bi=>Ce Tryz.prog (e1 bN) bh bi (λ(bj:Int) bk bl=>dY bl λbm=>gG bm .p g λ(bn:Option Addr)=>bV bn λbo=>aU bm bo 0 λbp=>ZM.c bj bl λbq br=>And (bm br) <| WN.c bp bj bq br λbs bt=>And (bm bt) <| bk bt) λbu=>fW g bu λbv=>aQ t 0 bu λbw=>aQ t 1 bu λbx=>aQ t 2 bu λbz=>aQ t 3 bu λb0=>aQ t 4 bu λb1=>Yf.c bv bw bx bz b0 b1 0 bu λb2=>dY b2 λb3=>gG b3 .p g λ(b4:Option Addr)=>bV b4 λb5=>gG b3 .m (b5.add 1) λ(b6:Option Nat)=>gG b3 bN ((t.add 0).add 0) λ(b7:Int)=>aS b3 t 0 λb8=>aS b3 t 1 λb9=>aS b3 t 2 λca=>aS b3 t 3 λcb=>aS b3 t 4 λcc=>kG .i64 (.ag 5) b6 b7 (b8,b9,ca,cb,cc) b2 λcd=>bM ((t.add 0).add 0) cd λce=>uO bi.size cd λcf=>f ce 0 cf))) λcg=>If p (cg true q) (bL (d-1) λch=>cg ((bits .and .i64 d ch) != 0) q)) λci=>If n (ci true o) (ci (decide (d>256)) o)) λcj=>If l (cj true m) (cj (decide (d<1)) m)) λck=>If (c<1) (ck true k) (ck (decide (c>1024)) k))
theorem Xt.o {a b c d e f}(g:Xt.v a b c d e f):Xt.c a b c d e f:=Ih Tryz.func14 (x:=Xt.h) (R0 g)
def YL.h:Hn:=.q .o2 (.q (.q .o4 (.q .o2 (.c (.q .o3 .l) .l))) (.q .fP .l))
def YL.v (a:R2)(b:Int)(c:Hp)(d:Int->Int->Hp->Prop):Prop:=X8.c a b c λe f=>If (e != 0) (d 0 e f) (bF a 0 f λh=>Yq.c h b f λi j k=>d i j k)
theorem YL.o {a b c d}(e:YL.v a b c d):YL.c a b c d:=Wa Tryz.func16 (x:=YL.h) (R0 e)
def Xo.h:Hn:=.q .o1 (.q (.q .o4 (.q .o2 .aJ)) (.q .o8 .l))
def Xo.v (a:R2)(b c:Int)(d:Hp)(e:aN):Prop:=X8.c a b d λf g=>If (f != 0) (e f g) (bF a 0 g λi=>WN.c i b c g λj k=>e j k)
theorem Xo.o {a b c d e}(f:Xo.v a b c d e):Xo.c a b c d e:=Wa Tryz.func17 (x:=Xo.h) (R0 f)
def X4.h:Hn:=.q .o1 (.q (.q .o3 .aK) (.q .o1 (.q (.q .o8 (.k (.loop [(3,.one .s),(16,.I)] (.q .o1 (.q (.c .l .l) (.q (.k (.q .o3 (.o 11))) .o2)))))) .aL)))
def X4.v (a:R2)(b:Hp)(c:Sl->Hp->Prop):Prop:=WG.c a b λd e=>If (!d) (c ⟨none,0,0⟩ e) (bI a 1 e λg=>Zl.c g e λh i=>QM.c h i λj k=>XW [.s,bN] (λl=>l ⟨none,0,0⟩ 0 k) λm (n:Sl) (o:Int) p=>If (o<((j.len:Nat):Int)) (Ix j.a j.len o 1 λq=>bM q p λr=>bV a λs=>bB s 1 p λt=>Lk .i64 (.ag 5) t r p λu=>aV #[.I ((u.getD (0,0,0,0,0)).1),.I ((u.getD (0,0,0,0,0)).2.1),.I ((u.getD (0,0,0,0,0)).2.2.1),.I ((u.getD (0,0,0,0,0)).2.2.2.1)] 52 p λv w=>App n 4 32 52 [.I 0,.I 0,.I 0,.I 0] ⟨some v,1,1⟩ w λx y=>bL (o+1) λz=>m x z y) (c n p))
theorem X4.o {a b c}(d:X4.v a b c):X4.c a b c:=Wa Tryz.func20 (x:=X4.h) (R0 d)
def W7.h:Hn:=.q .o2 (.q (.q .o3 .aJ) (.q (.o 12) (.q (.q .o2 .aJ) (.q (.q .o3 .aJ) (.q .o5 .l)))))
def W7.v (a:R2)(b:Int)(c:Hp)(d:Sl->Int->Hp->Prop):Prop:=WG.c a c λe f=>If (!e) (d ⟨none,0,0⟩ 5 f) (bI a 1 f λh=>Lk .i64 (.ag 5) h b f λi=>aV #[.I 0,.I 0,.I 0,.I 0,.I 0] 95 f λj k=>aR j 0 (.I ((i.getD (0,0,0,0,0)).1)) k λl=>aR j 1 (.I ((i.getD (0,0,0,0,0)).2.1)) l λm=>aR j 2 (.I ((i.getD (0,0,0,0,0)).2.2.1)) m λn=>aR j 3 (.I ((i.getD (0,0,0,0,0)).2.2.2.1)) n λo=>aR j 4 (.I ((i.getD (0,0,0,0,0)).2.2.2.2)) o λp=>If (!i.isSome) (d ⟨none,0,0⟩ 8 p) (aQ j 0 p λq=>aQ j 1 p λr=>aQ j 2 p λs=>aQ j 3 p λt=>aQ j 4 p λu=>W9.c a q r s t u p λv w=>If v (d ⟨none,0,0⟩ 5 w) (aQ j 0 w λx=>aQ j 1 w λy=>aQ j 2 w λz=>aQ j 3 w λaa=>aQ j 4 w λab=>Xb.c a x y z aa ab w λac ad=>d ac 0 ad)))
theorem W7.o {a b c d}(e:W7.v a b c d):W7.c a b c d:=Wa Tryz.func21 (x:=W7.h) (R0 e)
def XC.h:Hn:=.q .o1 (.q (.q .o3 .aK) (.q .o1 (.q (.q .o5 (.k (.loop [(3,.one .s)] (.q (.cQ (.seq [.it .i64 (.ag 5),.op])) (.q (.c .l .l) (.k (.q (.cQ (.seq [.it .i64 (.ag 5),.op,.op,.op])) (.q .o4 (.c .o6 .l))))))))) (.q .o2 (.q .o3 .l)))))
def XC.v (a:R2)(b:Hp)(c:Sl->Hp->Prop):Prop:=WG.c a b λd e=>If (!d) (c ⟨none,0,0⟩ e) (bI a 1 e λg=>nY .i64 (.ag 5) g e λh i=>XW [.s] (λj=>j ⟨none,0,0⟩ i) λk (l:Sl) m=>nZ .i64 (.ag 5) h m (Vf.c l m λn=>WX.c l n λo p=>c o p) (λq r s=>nX .i64 (.ag 5) h s λt u=>aV #[.I 0,.I 0,.I 0,.I 0,.I 0] 95 s λv w=>aR v 0 (.I u.1) w λx=>aR v 1 (.I u.2.1) x λy=>aR v 2 (.I u.2.2.1) y λz=>aR v 3 (.I u.2.2.2.1) z λaa=>aR v 4 (.I u.2.2.2.2) aa λab=>aQ v 0 ab λac=>aQ v 1 ab λad=>aQ v 2 ab λae=>aQ v 3 ab λaf=>aQ v 4 ab λag=>W9.c a ac ad ae af ag ab λah ai=>If (!ah) (aQ v 0 ai λaj=>aQ v 1 ai λak=>aQ v 2 ai λal=>aQ v 3 ai λam=>aQ v 4 ai λan=>Xb.c a aj ak al am an ai λao ap=>App l 1 8 3 [.I 0] ao ap λaq ar=>k aq ar) (k l ai)))
theorem XC.o {a b c}(d:XC.v a b c):XC.c a b c:=Wa Tryz.func22 (x:=XC.h) (R0 d)
def YN.h:Hn:=.q .o2 (.q (.q .o3 (.c (.q .o3 .l) .l)) (.q .o9 (.q (.q .o2 (.c (.q .o3 .l) .l)) (.q .o4 .l))))
def YN.v (a:R2)(b:Int)(c:Hp)(d:Int->Int->Int->Int->Int->Hp->Prop):Prop:=aV #[.I 0,.I 0,.I 0,.I 0] 52 c λe f=>WG.c a f λg h=>If (!g) (aR e 0 (.I 0) h λi=>aR e 1 (.I 0) i λj=>aR e 2 (.I 0) j λk=>aR e 3 (.I 0) k λl=>aQ e 0 l λm=>aQ e 1 l λn=>aQ e 2 l λo=>aQ e 3 l λp=>d m n o p 5 l) (Za.c a b ⟨57,#[],#[]⟩ h λq r s t u v w=>aV #[.I 0,.I 0,.I 0,.I 0,.I 0] 95 w λx y=>aR x 0 (.I q) y λz=>aR x 1 (.I r) z λaa=>aR x 2 (.I s) aa λab=>aR x 3 (.I t) ab λac=>aR x 4 (.I u) ac λad=>If (!v) (aR e 0 (.I 0) ad λae=>aR e 1 (.I 0) ae λaf=>aR e 2 (.I 0) af λag=>aR e 3 (.I 0) ag λah=>aQ e 0 ah λai=>aQ e 1 ah λaj=>aQ e 2 ah λak=>aQ e 3 ah λal=>d ai aj ak al 8 ah) (bM ((x.add 0).add 0) ad λam=>bM ((x.add 0).add 1) ad λan=>bM ((x.add 0).add 2) ad λao=>bM ((x.add 0).add 3) ad λap=>aR e 0 (.I am) ad λaq=>aR e 1 (.I an) aq λar=>aR e 2 (.I ao) ar λau=>aR e 3 (.I ap) au λav=>aQ e 0 av λaw=>aQ e 1 av λax=>aQ e 2 av λay=>aQ e 3 av λaz=>d aw ax ay az 0 av))
theorem YN.o {a b c d}(e:YN.v a b c d):YN.c a b c d:=Wa Tryz.func23 (x:=YN.h) (R0 e)
def YP.h:Hn:=.q .o1 (.q (.q .o3 .aK) (.q .o5 .l))
def YP.v (a:R2)(b:Hp)(c:Option Addr->Hp->Prop):Prop:=WG.c a b λd e=>If (!d) (c none e) (bF a 0 e λg=>c g e)
theorem YP.o {a b c}(d:YP.v a b c):YP.c a b c:=Wa Tryz.func24 (x:=YP.h) (R0 d)
def Wy.h:Hn:=.q .o1 (.q .o5 .l)
def Wy.v (a:R2)(b c:Int)(d:Hp)(e:aN):Prop:=Ye.c a b c true d λf g=>e f g
theorem Wy.o {a b c d e}(f:Wy.v a b c d e):Wy.c a b c d e:=Wa Tryz.func29 (x:=Wy.h) (R0 f)
def QG.h:Hn:=.q .o2 (.q (.q .o3 .aJ) (.q .o7 .l))
def QG.v (a:R2)(b:Hp)(c:Option Addr->Int->Hp->Prop):Prop:=Qy.c a b λd e=>If (!d) (c none 1 e) (Nw (.map #[] 0) e λf g=>Nw (.map #[] 0) g λh i=>aV #[.pointer a,.map (some f.block),.map (some h.block),.I 0] 74 i λj k=>c (some j) 0 k)
theorem QG.o {a b c}(d:QG.v a b c):QG.c a b c:=Wa Tryz.func33 (x:=QG.h) (R0 d)
def WG.h:Hn:=.q .o1 (.q (.cQ (.seq [.op,.op,.op,.cW true 5 (RI.ops 5),.op])) .l)
def WG.v (a:R2)(b:Hp)(c:aO):Prop:=bW (λd e=>c d e) λf=>If (!a.isNone) (bF a 0 b λh=>f (!h.isNone) b) (f false b)
theorem WG.o {a b c}(d:WG.v a b c):WG.c a b c:=Wa Tryz.func42 (x:=WG.h) (R0 d)
def Xn.h:Hn:=.q .o2 (.q .o8 .l)
def Xn.v (a b c d e:Int)(f:Hp)(g:aN):Prop:=aV #[.I a,.I b,.I c,.I d,.I e] 95 f λh i=>bM ((h.add 0).add 1) i λj=>bL (j+8) λk=>bL (k-1) λl=>Nz 8<|bL (l.tdiv 8) λm=>bL (m*8) λn=>g n i
theorem Xn.o {a b c d e f g}(h:Xn.v a b c d e f g):Xn.c a b c d e f g:=Wa Tryz.func44 (x:=Xn.h) (R0 h)
def XH.h:Hn:=.q .o2 .aL
def XH.v (a b c d e:Int)(f:Hp)(g:Fv->Hp->Prop):Prop:=aV #[.I a,.I b,.I c,.I d,.I e] 95 f λh i=>g ⟨82,#[],#[.pointer (some h)]⟩ i
theorem XH.o {a b c d e f g}(h:XH.v a b c d e f g):XH.c a b c d e f g:=Wa Tryz.func45 (x:=XH.h) (R0 h)
def ZM.h:Hn:=.q .o1 (.q .o4 .l)
def ZM.v (a:Int)(b:Hp)(c:aN):Prop:=bL (0-a) λd=>bL (d-1) λe=>c e b
theorem ZM.o {a b c}(d:ZM.v a b c):ZM.c a b c:=Wa Tryz.func46 (x:=ZM.h) (R0 d)
def Yf.h:Hn:=.q .o1 (.q .o1 (.k (.loop [(6,.I)] (.q (.q .o4 (.c .l .l)) (.q (.k (.cQ (.tail 10 (RI.ops 10) [.op]))) .o3)))))
def Yf.v (a:R2)(b c d e f g:Int)(h:Hp)(i:aP):Prop:=aV #[.I b,.I c,.I d,.I e,.I f] 95 h λj k=>XW [bN] (λl=>l 0 k) λm (n:Int) o=>aQ j 0 o λp=>aQ j 1 o λq=>aQ j 2 o λr=>aQ j 3 o λs=>aQ j 4 o λt=>Xn.c p q r s t o λu v=>If (n<u) (bF a 0 v λx=>bM ((j.add 0).add 0) v λy=>bL (y+n) λz=>WN.c x z g v λaa ab=>bL (n+8) λac=>m ac ab) (i v)
theorem Yf.o {a b c d e f g h i}(j:Yf.v a b c d e f g h i):Yf.c a b c d e f g h i:=Wa Tryz.func47 (x:=Yf.h) (R0 j)
def X8.h:Hn:=.q .o1 (.q (.q .o3 .aK) (.q .o9 (.q (.k (.q (.cQ (.seq [.op,.op,.op,.cW false 3 (RI.ops 3),.op])) (.c .aM (.q .o4 .aK)))) .aM)))
def X8.v (a:R2)(b:Int)(c:Hp)(d:aN):Prop:=WG.c a c λe f=>If (!e) (d 5 f) (Za.c a b ⟨44,#[],#[]⟩ f λg h i j k l m=>aV #[.I 0,.I 0,.I 0,.I 0,.I 0] 95 m λn o=>aR n 0 (.I g) o λp=>aR n 1 (.I h) p λq=>aR n 2 (.I i) q λr=>aR n 3 (.I j) r λs=>aR n 4 (.I k) s λt=>bW (λu v=>If u (d 7 v) (aQ n 0 v λw=>aQ n 1 v λx=>aQ n 2 v λy=>aQ n 3 v λz=>aQ n 4 v λaa=>W9.c a w x y z aa v λab ac=>If ab (d 5 ac) (d 0 ac))) λad=>If (!l) (ad true t) (Nz 8 <| ad ((b.tmod 8) != 0) t))
theorem X8.o {a b c d}(e:X8.v a b c d):X8.c a b c d:=Wa Tryz.func48 (x:=X8.h) (R0 e)
def W9.h:Hn:=.q .o2 (.q (.cQ (.held true [7] (.tk [0,1,2,3,4,5,6] (.all [(7,.tk [8,9,10,11,12] (.done))])))) (.q (.cQ (.seq [.op,.op,.op,.cW false 5 (RI.ops 5),.op])) .l))
def W9.v (a:R2)(b c d e f:Int)(g:Hp)(h:aO):Prop:=aV #[.I b,.I c,.I d,.I e,.I f] 95 g λi j=>dY j λk=>bV a λl=>aU k l 0 λm=>gG k bN ((i.add 0).add 2) λ(n:Int)=>Xx.c m n j λo p q=>bW (λr s=>h r s) λt=>If (p != 0) (t true q) (bM ((i.add 0).add 3) q λu=>t (o != u) q)
theorem W9.o {a b c d e f g h}(i:W9.v a b c d e f g h):W9.c a b c d e f g h:=Wa Tryz.func52 (x:=W9.h) (R0 i)
def Xb.h:TX:=.nx (.o 3) (.nx (.o 1) (.r1 (.o 2) bN (.block (.seq (.o 11) (.seq (.cQ (.seq [.op,.op,.op,.cW false 4 [.op,.op,.op,.op]])) (.cond (.o 5) (.leaf))))) (.seq (.o 2) (.leaf))))
def Xb.v (a:R2)(b c d e f:Int)(g:Hp)(h:Sl->Hp->Prop):Prop:=aV #[.pointer a] 33 g λi j=>aV #[.I b,.I c,.I d,.I e,.I f] 95 j λk l=>aV #[.slice none 0 0] 34 l λm n=>aQ k 0 n λo=>aQ k 1 n λp=>aQ k 2 n λq=>aQ k 3 n λr=>aQ k 4 n λs=>XH.c o p q r s n λt u=>Ce Tryz.prog (e1 bN) t u (λ(v:Int) w x=>fW i x λy=>bF y 0 x λaa=>Yq.c aa v x λab ac ad=>bW (λae af=>If ae (ju m af λag=>aV #[.I v] 3 af λah ai=>App ag 1 8 3 [.I 0] ⟨some ah,1,1⟩ ai λaj ak=>dU m (.slice aj.a aj.len aj.cap) ak λal=>w al) (w af)) λam=>If (ac != 0) (am true ad) (ZM.c v ad λan ao=>am (ab != an) ao)) λap=>ju m ap λaq=>uO u.size ap λar=>h aq ar
theorem Xb.o {a b c d e f g h}(i:Xb.v a b c d e f g h):Xb.c a b c d e f g h:=Ih Tryz.func53 (x:=Xb.h) (R0 i)
def Za.h:Hn:=.q .o2 (.q .o1 (.q .o2 (.q (.q .o5 (.k (.loop [(9,.one .b),(10,.one .b)] (.q (.cQ (.seq [.it .i64 (.ag 5),.op])) (.q (.c .l .l) (.k (.q (.cQ (.seq [.it .i64 (.ag 5),.op,.op,.op])) (.q (.q (.cQ (.gR true [] [(38,.one .b)] (.tk [0,1,2,3,4,5] (.split 28 (.tk [6,7,8,9,10,11,12,13,14,15] (.done)) (.tk [6,7,8,9,10,11] (.all [(12,.tk [13,14,15] (.done))])))))) (.c .l .l)) (.q .o5 (.q (.cQ (.seq [.op,.op,.op,.cW false 5 [.op,.op,.cW true 2 [.op,.op]],.op,.cW false 10 [.op,.op,.op,.op,.cW true 5 (RI.ops 5)]])) (.c .o5 .l))))))))))) (.q .o4 .l))))
def Za.v (a:R2)(b:Int)(c:Fv)(d:Hp)(e:Int->Int->Int->Int->Int->Bool->Hp->Prop):Prop:=aV #[.I 0,.I 0,.I 0,.I 0,.I 0] 95 d λf g=>aV #[.I 0,.I 0,.I 0,.I 0,.I 0] 95 g λh i=>bI a 1 i λk=>nY .i64 (.ag 5) k i λl m=>XW [.b,.b] (λn=>n false false m) λo (p:Bool) (q:Bool) r=>nZ .i64 (.ag 5) l r (aQ h 0 r λs=>aQ h 1 r λt=>aQ h 2 r λu=>aQ h 3 r λv=>aQ h 4 r λw=>aR f 0 (.I s) r λx=>aR f 1 (.I t) x λy=>aR f 2 (.I u) y λz=>aR f 3 (.I v) z λaa=>aR f 4 (.I w) aa λab=>aQ f 0 ab λac=>aQ f 1 ab λad=>aQ f 2 ab λae=>aQ f 3 ab λaf=>aQ f 4 ab λag=>e ac ad ae af ag p ab) (λah ai aj=>nX .i64 (.ag 5) l aj λak al=>aV #[.I 0,.I 0,.I 0,.I 0,.I 0] 95 aj λam an=>aR am 0 (.I al.1) an λao=>aR am 1 (.I al.2.1) ao λap=>aR am 2 (.I al.2.2.1) ap λaq=>aR am 3 (.I al.2.2.2.1) aq λar=>aR am 4 (.I al.2.2.2.2) ar λau=>Jn [.b] (λ(av:Bool) aw=>If av (o p q aw) (aQ am 0 aw λax=>aQ am 1 aw λay=>aQ am 2 aw λaz=>aQ am 3 aw λa0=>aQ am 4 aw λa1=>W9.c a ax ay az a0 a1 aw λa2 a3=>bW (λa4 a5=>bW (λa6 a7=>If a6 (aQ am 0 a7 λa8=>aQ am 1 a7 λa9=>aQ am 2 a7 λba=>aQ am 3 a7 λbb=>aQ am 4 a7 λbc=>aR h 0 (.I a8) a7 λbd=>
 aR h 1 (.I a9) bd λbe=>aR h 2 (.I ba) be λbf=>aR h 3 (.I bb) bf λbg=>aR h 4 (.I bc) bg λbh=>o true (!a2) bh) (o p q a7)) λbi=>If a4 (bi true a5) (bW (λbj bk=>bi bj bk) λbl=>If ((!a2)==q) (aQ am 4 a5 λbm=>aQ h 4 a5 λbn=>bl (decide (bm>bn)) a5) (bl false a5))) λbo=>If (!p) (bo true a3) (bW (λbp bq=>bo bp bq) λbr=>If (!a2) (br (!q) a3) (br false a3)))) λbs=>dY au λbt=>gG bt bN ((am.add 0).add 0) λ(bu:Int)=>If (b<bu) (bs true au) (gG bt bN ((am.add 0).add 0) λ(bv:Int)=>aS bt am 0 λbw=>aS bt am 1 λbx=>aS bt am 2 λbz=>aS bt am 3 λb0=>aS bt am 4 λb1=>V5 Tryz.prog c [.agg #[.I bw,.I bx,.I bz,.I b0,.I b1]] [.I] au λb2 b3=>And (bt b3) <| bL (bv+b2) λb4=>bs (decide (b≥b4)) b3))
theorem Za.o {a b c d e}(f:Za.v a b c d e):Za.c a b c d e:=Wa Tryz.func56 (x:=Za.h) (R0 f)
def YD.h:Hn:=.q .o2 (.q .o4 .l)
def YD.v (a b c d e:Int)(f:Hp)(g:aN):Prop:=aV #[.I a,.I b,.I c,.I d,.I e] 95 f λh i=>bM ((h.add 0).add 1) i λj=>g j i
theorem YD.o {a b c d e f g}(h:YD.v a b c d e f g):YD.c a b c d e f g:=Wa Tryz.func57 (x:=YD.h) (R0 h)
def Ye.h:Hn:=.q .o1 (.q (.q .o3 .aK) (.q (.q .o4 (.q .o2 .aJ)) (.q (.o 12) (.q (.k (.q (.cQ (.seq [.op,.op,.op,.cW true 6 (RI.ops 6),.op])) (.c .aM (.q .o3 (.c .aM (.q .o4 (.c .aM (.q (.cQ (.seq [.op,.op,.cW true 5 (RI.ops 5),.op])) .aK)))))))) (.q .o3 (.q .o6 (.q .o6 (.q (.cQ (.tail 8 (RI.ops 8) [.op])) .aM))))))))
def Ye.v (a:R2)(b c:Int)(d:Bool)(e:Hp)(f:aN):Prop:=WG.c a e λg h=>If (!g) (f 5 h) (Yt.c a b h λi j=>If (i != 0) (f i j) (bI a 1 j λl=>Lk .i64 (.ag 5) l c j λm=>aV #[.I 0,.I 0,.I 0,.I 0,.I 0] 95 j λn o=>aR n 0 (.I ((m.getD (0,0,0,0,0)).1)) o λp=>aR n 1 (.I ((m.getD (0,0,0,0,0)).2.1)) p λq=>aR n 2 (.I ((m.getD (0,0,0,0,0)).2.2.1)) q λr=>aR n 3 (.I ((m.getD (0,0,0,0,0)).2.2.2.1)) r λs=>aR n 4 (.I ((m.getD (0,0,0,0,0)).2.2.2.2)) s λt=>bW (λu v=>If u (f 9 v) (If (!m.isSome) (f 8 v) (aQ n 0 v λw=>aQ n 1 v λx=>aQ n 2 v λy=>aQ n 3 v λz=>aQ n 4 v λaa=>W9.c a w x y z aa v λab ac=>If ab (f 5 ac) (bW (λad ae=>If ad (f 10 ae) (aQ n 0 ae λaf=>aQ n 1 ae λag=>aQ n 2 ae λah=>aQ n 3 ae λai=>aQ n 4 ae λaj=>Yf.c a af ag ah ai aj (-1234567) ae λak=>bI a 1 ak λam=>lI .i64 (.ag 5) am c ak λan=>bI a 2 an λap=>kG .i64 .b ap c true an λaq=>bF a 0 aq λau=>bM ((n.add 0).add 2) aq λav=>Zq.c au b av aq λaw ax=>f 0 ax)) λay=>If d (aQ n 0 ac λaz=>aQ n 1 ac λa0=>aQ n 2 ac λa1=>aQ n 3 ac λa2=>aQ n 4 ac λa3=>Xb.c a az a0 a1 a2 a3 ac λa4 a5=>ay (decide (((a4.len:Nat):Int)>0)) a5) (ay false ac))))) λa6=>If (!m.isSome) (bI a 2 t λa8=>
 Lk .i64 .b a8 c t λa9=>a6 (a9.getD false) t) (a6 false t)))
theorem Ye.o {a b c d e f}(g:Ye.v a b c d e f):Ye.c a b c d e f:=Wa Tryz.func63 (x:=Ye.h) (R0 g)
def Qy.h:Hn:=.q .o1 (.q (.cQ (.seq [.op,.op,.op,.cW true 4 (RI.ops 4),.op])) .l)
def Qy.v (a:R2)(b:Hp)(c:aO):Prop:=bW (λd e=>c d e) λf=>If (!a.isNone) (X0.c a b λg h i j k l=>f (decide (g>0)) l) (f false b)
theorem Qy.o {a b c}(d:Qy.v a b c):Qy.c a b c:=Wa Tryz.func65 (x:=Qy.h) (R0 d)
def cG.sj (l:Nat)(cap0:Addr)(U:Hp)(R:aP):Prop:=A6 Tryz.prog 82 #[.func (.yield l) #[] #[],.pointer (some cap0)] U R
def cG.vL:Hn:=.seq (.seq (.o 4) (.block (.loop [(3,.one bN)] (.seq (.seq (.o 5) (.cond (.leaf) (.leaf))) (.seq (.block (.seq (.leaf) (.cond (.leaf) (.leaf)))) (.o 3)))))) (.seq (.cQ (.held true [] (.tk [0,1,2,3] (.all [(4,.take 5 (.take 6 (.done)))])))) (.block (.loop [(4,.one bN)] (.seq (.seq (.o 10) (.cond (.leaf) (.leaf))) (.seq (.block (.seq (.leaf) (.cond (.leaf) (.leaf)))) (.o 3))))))
def cG.wH (l:Nat)(cap0:Addr)(U:Hp)(R:aP):Prop:=
 gE .i64 ((cap0.add 0).add 2) U λvw=>
 XW [bN] (λI=>I vw U) λJ (vw1:Int) v=>
 gE .i64 ((cap0.add 0).add 0) v λt11=>
 If (decide (vw1<t11)) (Hu Tryz.prog l [.int .i64 vw1] v λmore v1=>
  If (!more) (R v1)
   (Ar .i64 (vw1+8) λvw2=>
   J vw2 v1))
  (dY v λS=>
  gG S bN ((cap0.add 0).add 0) λ(t21:Int)=>
  gG S bN (cap0.add 0) λ(t22:Int)=>
  gG S bN (cap0.add 1) λ(t221:Int)=>
  gG S bN (cap0.add 2) λ(t222:Int)=>
  gG S bN (cap0.add 3) λ(t223:Int)=>
  gG S bN (cap0.add 4) λ(t224:Int)=>
  Xn.c t22 t221 t222 t223 t224 v λt23 v2=>
  And (S v2) <|
  Ar .i64 (t21+t23) λvw3=>
  XW [bN] (λI1=>I1 vw3 v2) λJ1 (vw4:Int) v3=>
  Ar .i64 (vw4+8) λt26=>
  gE .i64 ((cap0.add 0).add 2) v3 λt29=>
  gE .i64 ((cap0.add 0).add 3) v3 λt32=>
  Ar .i64 (t29+t32) λt33=>
  If (decide (t26<=t33)) (Hu Tryz.prog l [.int .i64 vw4] v3 λmore1 v4=>
   If (!more1) (R v4)
    (Ar .i64 (vw4+8) λvw5=>
    J1 vw5 v4))
   (R v3))
theorem cG.tE {l:Nat}{cap0:Addr}{U:Hp}{R:aP}(hv:cG.wH l cap0 U R):cG.sj l cap0 U R:=
 Pv Tryz.func82 (x:=cG.vL) (args:=[.func (.yield l) #[] #[],.pointer (some cap0)]) (R:=R) (R0 hv)
def Yt.h:Hn:=.q .o1 (.q (.q (.cQ (.seq [.op,.op,.op,.cW false 8 (RI.ops 8)])) .aK) (.q (.q .o7 .aK) .aM))
def Yt.v (a:R2)(b:Int)(c:Hp)(d:aN):Prop:=bW (λe f=>If e (d 1 f) (bF a 0 f λh=>Ze.c h b f λi j=>If (!(i.toList==(ByteArray.mk #[]).toList)) (d 5 j) (d 0 j))) λk=>If (b<0) (k true c) (bF a 0 c λm=>X0.c m c λn o p q r s=>k (decide (b≥p)) s)
theorem Yt.o {a b c d}(e:Yt.v a b c d):Yt.c a b c d:=Wa Tryz.func90 (x:=Yt.h) (R0 e)
end Go.Proofs
namespace Go.Ar
open Go Go.Vc Go.Proofs
open Go.Vc (bU dA cR)
variable {U σ0 v w w':Hp}{F P Q X T:Rg}{L:dI}{H H':Hw}{held:List Pc}{s0 sp:Sp}{t n:Nat}{g:Th}{gb km fm m:Nat}
theorem gp {S:aP}{b i:Nat}{cs:List Value}{c:CK}{y:c.T}(hS:∀m,S m->bY m b cs)(hc:cs[i]?=some (c.v y)){K:c.T->Prop}(hK:K y):gG S c (Addr.add ⟨b,0,none⟩ i) K:=
 ⟨y,λm a=>by rw[add_lit,(hS m a).cell,zH];exact hc,hK⟩
theorem tn {S:aP}{b:Nat}{cs:List Value}{c:CK}{y:c.T}(hS:∀m,S m->bY m b cs)(hc:cs[0]?=some (c.v y)){K:c.T->Prop}(hK:K y):gG S c ⟨b,0,none⟩ K:=
 ⟨y,λm a=>by rw[(hS m a).cell];exact hc,hK⟩
theorem pd {S:aP}{b i j:Nat}{cs:List Value}{c:CK}{y:c.T}(hS:∀m,S m->bY m b cs)(hc:cs[i+j]?=some (c.v y)){K:c.T->Prop}(hK:K y):gG S c (Addr.add (Addr.add ⟨b,0,none⟩ i) j) K:=
 ⟨y,λm a=>by rw[add_lit,add_lit,(hS m a).cell,zH];exact hc,hK⟩
abbrev B5:=Int×Int×Int×Int×Int
def eW (b:B5):List Value:=[.int .i64 b.1,.int .i64 b.2.1,.int .i64 b.2.2.1,.int .i64 b.2.2.2.1,.int .i64 b.2.2.2.2]
def YI (n:Int):Int:=(n+7)/8*8
structure gL (b:B5):Prop where
 s:1<=b.2.1/\b.2.1<=1024
 base:0<=b.2.2.1/\b.2.2.1%8=0
 z:16<=b.1-b.2.2.1/\b.1-b.2.2.1<=256/\b.1%8=0
 t:b.1+YI b.2.1+16<=b.2.2.1+b.2.2.2.1/\b.2.2.2.1%8=0
 m:b.2.2.1+b.2.2.2.1<=270000
theorem ZK {n:Int}(h:0<=n):n<=YI n/\YI n<=n+7/\YI n%8=0:=by unfold YI;omega
structure Gu where
 kn:List (Int×B5)
 fr:List (Int×Bool)
 no:Int
def om:Gu:=⟨[],[],0⟩
def QH (b:B5):Nat:=(b.1-b.2.2.1).toNat/8
def Ue (b:B5):Nat:=(b.2.2.1+b.2.2.2.1-b.1-YI b.2.1).toNat/8
def XV (b:B5):List Int:=((List.range (QH b)).map λ(i:Nat)=>b.2.2.1+8*(i:Int))++(List.range (Ue b)).map λ(i:Nat)=>b.1+YI b.2.1+8*(i:Int)
theorem Gk (b:B5):(XV b).length=QH b+Ue b:=by unfold XV;simp
theorem N6 {b:B5}{i:Nat}(h:i<QH b):(XV b)[i]?=some (b.2.2.1+8*(i:Int)):=by
 unfold XV;rw[zh (by simpa using h)];simp[h]
theorem RL {b:B5}{i:Nat}(h:i<Ue b):(XV b)[QH b+i]?=some (b.1+YI b.2.1+8*(i:Int)):=by
 unfold XV;rw[zt aA];simp[h]
theorem UG {b:B5}(bi:gL b){z:Int}(hz:z∈XV b):b.2.2.1<=z/\z%8=0/\z+8<=b.2.2.1+b.2.2.2.1/\(z+8<=b.1\/b.1+YI b.2.1<=z):=by
 obtain⟨s,⟨j,e⟩,⟨u,g,p⟩,⟨t,r⟩,m⟩:=bi;have d:=ZK (n:=b.2.1) O;unfold XV at hz;rcases zK.1 hz with h|h
 ·obtain⟨i,a,rfl⟩:=zE.1 h;have:=zd.1 a;unfold QH at this;exact⟨O,O,O,.inl O⟩
 ·obtain⟨i,a,rfl⟩:=zE.1 h;have:=zd.1 a;unfold Ue at this;exact⟨O,O,O,.inr O⟩
def gF (z:Int):Int:=-z-1
def r6 (hp km fm:Nat)(x:Gu):List Value:=[.pointer (some ⟨hp,0,none⟩),.map (some km),.map (some fm),.int .i64 x.no]
structure GP (σ0 U:Hp) (L:dI) (H:Hw) (held:List Pc) (s0:Sp) (P:Rg) (gb km fm:Nat) (x:Gu):Prop where
 e:aG σ0 U
 h:HH U P L H
 hi:HI H held s0
 cf:j0 H
 pg:H.cf.aF<=128
 pP:∀b,P b->σ0.size<=b/\b<U.size
 rJ:σ0.size<=gb/\¬P gb
 tV:σ0.size<=km/\¬P km
 tN:σ0.size<=fm/\¬P fm
 n1:gb≠km
 n2:gb≠fm
 n3:km≠fm
 b:bY U gb (r6 L.p km fm x)
 m:dH U km .i64 (.ag 5) x.kn
 f:dH U fm .i64 .b x.fr
 g0:jc (λb=>σ0.size<=b)/\¬σ0.size<=1
variable {x y:Gu}
theorem GP.fr (p:GP σ0 U L H held s0 P gb km fm x)(e:aG U w):GP σ0 w L H held s0 P gb km fm x:=
 ⟨p.e.trans e,p.h.bO e,p.hi,p.cf,p.pg,λb a=>⟨(p.pP b a).1,by have:=(p.pP b a).2;have:=e.1;omega⟩,p.rJ,p.tV,p.tN,p.n1,p.n2,p.n3,e.bT p.b id,e.fS p.m id,e.fS p.f id,p.g0⟩
theorem GP.out (p:GP σ0 U L H held s0 P gb km fm x)(e:Ext T U w)(hT:∀b,b<U.size->T b->¬P b/\b≠gb/\b≠km/\b≠fm/\σ0.size<=b):GP σ0 w L H held s0 P gb km fm x:=by
 have s:=e.1;have a:=p.b.lt;have r:=p.m.lt;have g:=p.f.lt;have i:Ext (λb=>T b/\b<U.size) U w:=⟨e.1,λb a g=>e.2 b a λd=>g ⟨d,a⟩⟩;refine⟨Ext.dW p.e i λb a=>.inr (hT b a.2 a.1).2.2.2.2,p.h.bS i (λb a j d=>(hT b a d.1).1 j) (λb a=>?_) (λa=>?_),p.hi,p.cf,p.pg,λb a=>⟨(p.pP b a).1,by have:=(p.pP b a).2;omega⟩,p.rJ,p.tV,p.tN,p.n1,p.n2,p.n3,e.bT p.b λd=>(hT gb a d).2.1 rfl,e.fS p.m λd=>(hT km r d).2.2.1 rfl,e.fS p.f λd=>(hT fm g d).2.2.2.1 rfl,p.g0⟩
 ·exact p.g0.1 b (hT b a.2 a.1).2.2.2.2
 ·exact p.g0.2 (hT _ a.2 a.1).2.2.2.2
theorem GP.step (p:GP σ0 U L H held s0 P gb km fm x){ts':List eL}(e:Ext P U w)(h':HH w (Grow P U) {L with ts:=ts'} H'){held':List Pc}{s0':Sp}(hi':HI H' held' s0')(k:QA H' H) :
 GP σ0 w {L with ts:=ts'} H' held' s0' (Cut (Grow P U) w) gb km fm x:=by
 have u:=e.1;have a:=p.b.lt;have i:=p.m.lt;have r:=p.f.lt;have d:∀b,b<U.size->¬P b->¬Cut (Grow P U) w b:=λb g s j=>by
  rcases j.1 with h3|h3
  ·exact s h3
  ·omega
 refine⟨Ext.dW p.e e λb a=>.inr (p.pP b a).1,h'.cut,hi',p.cf.bS k,by rw[k.2.1];exact p.pg,λb a=>⟨?_,a.2⟩,⟨p.rJ.1,d gb a p.rJ.2⟩,⟨p.tV.1,d km i p.tV.2⟩,⟨p.tN.1,d fm r p.tN.2⟩,p.n1,p.n2,p.n3,e.bT p.b p.rJ.2,e.fS p.m p.tV.2,e.fS p.f p.tN.2,p.g0⟩;have:=p.e.1;rcases a.1 with g|g
 ·exact(p.pP b g).1
 ·omega
theorem GP.fo (p:GP σ0 U L H held s0 P gb km fm x)(e:Ext (λb=>b=gb\/b=km\/b=fm) U w)(hb:bY w gb (r6 L.p km fm y))(hm:dH w km .i64 (.ag 5) y.kn)(hf:dH w fm .i64 .b y.fr):GP σ0 w L H held s0 P gb km fm y:=by
 have i:=e.1;have a:∀b,(b=gb\/b=km\/b=fm)->σ0.size<=b/\¬P b:=λb hb=>by
  rcases hb with rfl|rfl|rfl
  ·exact p.rJ
  ·exact p.tV
  ·exact p.tN
 exact⟨Ext.dW p.e e λb hb=>.inr (a b hb).1,p.h.bS e (λb _ d g=>(a b g).2 d) (λb hb=>p.g0.1 b (a b hb).1) (λhb=>p.g0.2 (a _ hb).1),p.hi,p.cf,p.pg,λb hb=>⟨(p.pP b hb).1,by have:=(p.pP b hb).2;omega⟩,p.rJ,p.tV,p.tN,p.n1,p.n2,p.n3,hb,hm,hf,p.g0⟩
theorem Vv (p:GP σ0 U L H held s0 P gb km fm x){R:aO}(hR:R true U):WG.c (aW gb) U R:=by
 refine WG.o ?_;unfold WG.v;exact bW.intro (cC rfl (bK (p.b.rP rfl hR)))
theorem Hl (b:B5)(h0:0<=b.2.1)(h1:b.2.1<=1000000){R:aN}(hR:∀σ',aG U σ'->R (YI b.2.1) σ'):Xn.c b.1 b.2.1 b.2.2.1 b.2.2.2.1 b.2.2.2.2 U R:=by
 refine Xn.o ?_;unfold Xn.v;refine nw (cs:=eW b) λv d e a=>a.eZ rfl (ar O O (ar O O (nz aB (ar (by rw[XX O];omega) (by rw[XX O];omega) ?_))));rw[XX O];refine ar O O ?_;have:(b.2.1+8-1)/8*8=YI b.2.1:=by unfold YI;omega
 rw[this];exact hR v e
theorem Dh (z:Int)(h0:0<=z)(h1:z<=1000000){R:aN}(hR:R (gF z) U):ZM.c z U R:=by
 refine ZM.o ?_;unfold ZM.v;refine ar O O (ar O O ?_);have:0-z-1=gF z:=by unfold gF;omega
 rw[this];exact hR
theorem Ir (b:B5){R:Fv->Hp->Prop}(hR:∀σ',σ'.size=U.size+1->aG U σ'->bY σ' U.size (eW b)->R ⟨82,#[],#[.pointer (some ⟨U.size,0,none⟩)]⟩ σ'):XH.c b.1 b.2.1 b.2.2.1 b.2.2.2.1 b.2.2.2.2 U R:=by
 refine XH.o ?_;unfold XH.v;exact nw (cs:=eW b) λv d e a=>hR v d e a
theorem CU {P:Program}{l:Nat}{args:List Value}{h:Hp}{R R':Bool->Hp->Prop}(hy:Hu P l args h R)(hm:∀b w,R b w->R' b w):Hu P l args h R':=λw d=>by
 obtain⟨j,a,p,g,u,r⟩:=hy w d;exact⟨j,a,p,g,u,r.mono λe x ⟨i,b,s,m⟩=>⟨i,b,s,hm _ _ m⟩⟩
theorem Fz {b:B5}(bi:gL b):vB Tryz.prog ⟨82,#[],#[.pointer (some ⟨n,0,none⟩)]⟩ ((XV b).map (e1 bN)) (λs=>bY s n (eW b)):=by
 intro l J hst hKp hy h h0;obtain⟨s,⟨M,N⟩,⟨H,P,Q⟩,⟨t,L⟩,R⟩:=bi;have K:=ZK (n:=b.2.1) O;have D:(QH b:Int)*8=b.1-b.2.2.1:=by unfold QH;omega
 have E:(Ue b:Int)*8=b.2.2.1+b.2.2.2.1-b.1-YI b.2.1:=by unfold Ue;omega
 show cG.sj l ⟨n,0,none⟩ h λG=>J ((XV b).map (e1 bN)).length G;rw[zl,Gk];refine cG.tE ?_;unfold cG.wH;refine(hKp 0 h h0).eZ rfl (Qc (a:=bN) (λ(z:Int) s=>∃i:Nat,z=b.2.2.1+8*(i:Int)/\i<=QH b/\J i s) (λz _=>(b.1-z).toNat) ⟨0,O,O,h0⟩ ?_);rintro(z:Int) s ⟨i,rfl,hi,hJ⟩;have B:=hKp i s hJ;refine B.eZ rfl (cP (λw=>?_) λA=>?_)
 ·have d:i<QH b:=by omega
  have x:((XV b).map (e1 bN))[i]?=some [Value.int .i64 (b.2.2.1+8*(i:Int))]:=by rw[zg,N6 d];rfl
  refine CU (hy i _ x s hJ) λF C ⟨g,j⟩=>?_;subst g;exact cB rfl (ar O O ⟨⟨i+1,O,O,j⟩,O⟩)
 ·have d:i=QH b:=by omega
  subst d;have p:∀m,aG s m->bY m n (eW b):=λm e=>e.bT B id;refine⟨λm=>aG s m,Ext.refl _ _,pd (c:=bN) (y:=b.1) p rfl (gp (c:=bN) (y:=b.1) p rfl (gp (c:=bN) (y:=b.2.1) p rfl (gp (c:=bN) (y:=b.2.2.1) p rfl (gp (c:=bN) (y:=b.2.2.2.1) p rfl (gp (c:=bN) (y:=b.2.2.2.2) p rfl ?_)))))⟩;refine Hl b O O λs1 u=>⟨u,ar O O ?_⟩;refine Qc (a:=bN) (λ(z:Int) s=>∃i:Nat,z=b.1+YI b.2.1+8*(i:Int)/\i<=Ue b/\J (QH b+i) s) (λz _=>(b.2.2.1+b.2.2.2.1-z).toNat) ⟨0,O,O,hst _ _ _ hJ u⟩ ?_;rintro(z:Int) s2 ⟨i,rfl,hi,hJ2⟩;have r:=hKp _ s2 hJ2;refine ar O O (r.eZ rfl (r.eZ rfl (ar O O (cP (λw=>?_) λA=>?_))))
  ·have d:i<Ue b:=by omega
   have x:((XV b).map (e1 bN))[QH b+i]?=some [Value.int .i64 (b.1+YI b.2.1+8*(i:Int))]:=by rw[zg,RL d];rfl
   refine CU (hy _ _ x s2 hJ2) λF C ⟨g,j⟩=>?_;subst g;exact cB rfl (ar O O ⟨⟨i+1,O,O,j⟩,O⟩)
  ·have d:i=Ue b:=by omega
   subst d;exact hJ2
def Ug (H:Hw)(b:B5):Bool:=!(Kx H b.2.2.1==some b.2.2.2.1)
theorem HC (p:GP σ0 U L H held s0 P gb km fm x)(b:B5){R:aO}(hR:∀σ',aG U σ'->R (Ug H b) σ'):W9.c (aW gb) b.1 b.2.1 b.2.2.1 b.2.2.2.1 b.2.2.2.2 U R:=by
 refine W9.o ?_;unfold W9.v;refine nw (cs:=eW b) λv s e j=>?_;have g:=p.fr e;refine⟨λm=>aG v m,Ext.refl _ _,bK (gp (c:=.p) (y:=some ⟨L.p,0,none⟩) (λm e=>e.bT g.b id) rfl (pd (c:=bN) (y:=b.2.2.1) (λm e=>e.bT j id) rfl (DC g.h b.2.2.1 λr e1=>?_)))⟩;have d:=e1.bT j id;have a:=hR r (e.trans e1);refine bW.intro ?_;cases hu:Kx H b.2.2.1 with
 | none=>
  unfold Ug at a;rw[hu]at a;exact cC rfl a
 | some u=>
  unfold Ug at a;rw[hu]at a;refine cB rfl (d.eZ rfl ?_);have:(!(some u==some b.2.2.2.1))=((some u).getD 0 != b.2.2.2.1):=by simp[bne]
  rw[this]at a;exact a
def Qw (H:Hw)(thread:Int):Int:=if thread<0\/thread≥(H.cf.threads:Int)then 1 else if(Uz H thread).isSome then 5 else 0
theorem NG (p:GP σ0 U L H held s0 P gb km fm x)(thread:Int){R:aN}(hR:∀σ',aG U σ'->R (Qw H thread) σ'):Yt.c (aW gb) thread U R:=by
 refine Yt.o ?_;unfold Yt.v;refine KY (λr u=>aG U u/\r=decide (thread<0\/thread≥(H.cf.threads:Int))) (λr u ⟨d,i⟩=>?_) λJ j=>?_
 ·by_cases hc:thread<0\/thread≥(H.cf.threads:Int)
  ·have a:=hR u d;unfold Qw at a;rw[zC hc]at a;exact cC (by rw[i];exact zJ hc) a
  ·have g:=p.fr d;refine cB (by rw[i];exact zN hc) (bK (g.b.rP rfl (Jh g.h thread λs w e2 m=>?_)));have a:=hR w (d.trans e2);unfold Qw at a;rw[zB hc]at a;rw[m];cases hp:Uz H thread with
   | none=>rw[hp]at a;exact cB rfl a
   | some q=>rw[hp]at a;exact cC rfl a
 ·refine cP (λh=>j _ _ ⟨Ext.refl _ _,by rw[zJ];exact .inl h⟩) λh=>bK (p.b.rP rfl (Ff p.h λu e=>j _ _ ⟨e,?_⟩));rw[l9,decide_eq_true_iff,decide_eq_true_iff];exact⟨.inr,λy=>y.resolve_left h⟩
theorem MB (h:HH U F L H)(hp:1<=H.cf.aF){R:aO}(hR:∀σ',aG U σ'->R true σ'):Qy.c (aW L.p) U R:=by
 refine Qy.o ?_;unfold Qy.v;refine bW.intro (cC rfl (Ff h λw e=>?_));have:decide ((H.cf.aF:Int)>0)=true:=zJ O;rw[this];exact hR w e
theorem Dm (e0:aG σ0 U)(h:HH U P L H)(hi:HI H held s0)(hc:j0 H)(hpg:H.cf.aF<=128)(hP:∀b,P b->σ0.size<=b/\b<U.size)(hg:jc (λb=>σ0.size<=b)/\¬σ0.size<=1){R:Option Addr->Int->Hp->Prop}
 (hR:∀w gb km fm,aG U w->U.size<=gb/\U.size<=km/\U.size<=fm->GP σ0 w L H held s0 P gb km fm om->R (some ⟨gb,0,none⟩) 0 w):QG.c (aW L.p) U R:=by
 refine QG.o ?_;unfold QG.v;refine MB h hc.1 λv e=>cB rfl (sY λi u e1 s=>sY λy m e2 r=>nw (cs:=r6 L.p v.size i.size om) λv3 x g A=>?_);have B:=e.1;have C:=e0.1;have a:=((e.trans e1).trans e2).trans g;have d:∀b,U.size<=b->¬P b:=λb D z=>by have:=(hP b z).2;omega
 exact hR v3 y.size v.size i.size a ⟨O,O,O⟩ ⟨e0.trans a,h.bO a,hi,hc,hpg,λb j=>⟨(hP b j).1,by have:=(hP b j).2;have:=a.1;omega⟩,⟨O,d _ O⟩,⟨O,d _ O⟩,⟨O,d _ O⟩,O,O,O,A,(e2.trans g).fS (s _ _) id,g.fS (r _ _) id,hg⟩
end Go.Ar
namespace Go.Ar
open Go Go.Vc Go.Proofs
open Go.Vc (bU dA cR)
variable {U σ0 v w w':Hp}{F P Q X T:Rg}{L:dI}{H H':Hw}{held:List Pc}{s0 sp:Sp}{t n:Nat}{g:Th}{gb km fm m:Nat}{x y:Gu}{b:B5}
def j6 (sp:Sp)(l:List Int)(f:Int->Int):Sp:=l.foldl (λs z=>W5 s z (f z)) sp
theorem N7 (sp:Sp)(z:Int)(l:List Int)(f:Int->Int):j6 sp (z::l) f=j6 (W5 sp z (f z)) l f:=rfl
theorem DL (sp:Sp)(l:List Int)(z:Int)(f:Int->Int):j6 sp (l++[z]) f=W5 (j6 sp l f) z (f z):=by unfold j6;rw[wU];rfl
theorem UL {sp:Sp}{x:Nat}:dT sp ((8*x:Nat):Int)=0↔gf sp.st (x/32)≠0:=by
 unfold dT;rw[zB O,show((8*x:Nat):Int).toNat/256=x/32 by omega];unfold gf;split
 ·rename_i h;rw[h];simp
 ·rename_i h;exact⟨λ_=>h,λ_=>rfl⟩
theorem JE {s s':Sp}(h:∀p,gf s'.st p=0↔gf s.st p=0)(z:Int):dT s' z=dT s z:=by
 unfold dT;have a:=h (z.toNat/256);unfold gf at a;split
 ·rfl
 ·by_cases hz:s.st.getD (z.toNat/256) 0=0
  ·rw[zC hz,zC (a.2 hz)]
  ·rw[zB hz,zB λb=>hz (a.1 b)]
theorem GJ (sp:Sp)(x:Nat):QJ sp ((8*x:Nat):Int)=if gf sp.st (x/32)≠0 then sp.wd x else 0:=by
 unfold QJ;by_cases h:gf sp.st (x/32)≠0
 ·rw[zC (UL.2 h),zC h];congr 1;omega
 ·rw[zB (λa=>h (UL.1 a)),zB h]
theorem xK (f:Int->Int):∀(l:List Int) (sp:Sp),(∀z∈l,0<=z/\z%8=0)->(j6 sp l f).st.length=sp.st.length/\(∀p,gf (j6 sp l f).st p=0↔gf sp.st p=0) ∧
 ∀w:Nat,(j6 sp l f).wd w=if((8*w:Nat):Int)∈l/\gf sp.st (w/32)≠0 then f ((8*w:Nat):Int)else sp.wd w
 | [],sp,_=>⟨rfl,λ_=>Iff.rfl,λw=>by rw[zB aA];rfl⟩
 | z::l,sp,hl=>by
  obtain⟨i1,i2,i3⟩:=xK f l (W5 sp z (f z)) λz a=>hl z (mC _ a);obtain⟨d,b,e⟩:=Un sp z (f z);have m:=hl z oh;obtain⟨zn,rfl⟩:∃c:Nat,z=((8*c:Nat):Int):=⟨z.toNat/8,O⟩;rw[N7];refine⟨i1.trans d,λp=>(i2 p).trans (b p),λw=>?_⟩;rw[i3,e];have a:=b (w/32);by_cases hm:gf sp.st (w/32)≠0
  ·by_cases hw:((8*w:Nat):Int)∈l
   ·rw[zC ⟨hw,λh=>hm (a.1 h)⟩,zC ⟨mC _ hw,hm⟩]
   ·rw[zB λh=>hw h.1];by_cases he:w=zn
    ·subst he;rw[zC ⟨UL.2 hm,O⟩,zC ⟨oh,hm⟩]
    ·rw[zB λh=>he (by have:=h.2;omega),zB λh=>(zV.1 h.1).elim (λh=>he O) hw]
  ·have key:¬(dT sp ((8*zn:Nat):Int)=0/\w=((8*zn:Nat):Int).toNat/8):=λh=>by
    have j:=UL.1 h.1;have i:w=zn:=by omega
    subst i;exact hm j
   rw[zB λh=>hm λg=>h.2 (a.2 g),zB key,zB λh=>hm h.2]
theorem HI.j6 (f:Int->Int):∀(l:List Int) {H:Hw} {s0:Sp},HI H held s0->∃s0',HI {H with sp:=Go.Ar.j6 H.sp l f} held s0'
 | [],H,s0,h=>⟨s0,h⟩
 | z::l,H,s0,h=>HI.j6 f l (h.write z (f z))
theorem KR {f:Int->Int}{l:List Int}{sp:Sp}(hl:∀z∈l,0<=z/\z%8=0)(w:Nat):QJ (j6 sp l f) ((8*w:Nat):Int)=if((8*w:Nat):Int)∈l/\gf sp.st (w/32)≠0 then f ((8*w:Nat):Int)else QJ sp ((8*w:Nat):Int):=by
 obtain⟨_,a,b⟩:=xK f l sp hl;rw[GJ,GJ];by_cases hm:gf sp.st (w/32)≠0
 ·rw[zC λh=>hm ((a _).1 h),b];by_cases hw:((8*w:Nat):Int)∈l
  ·rw[zC ⟨hw,hm⟩,zC ⟨hw,hm⟩]
  ·rw[zB λh=>hw h.1,zB λh=>hw h.1,zC hm]
 ·rw[zB λh=>hm λd=>h ((a _).2 d),zB λh=>hm h.2,zB hm]
def ud (b:B5):Nat:=(YI b.2.1/8).toNat
def Qv (b:B5):List Int:=(List.range (ud b)).map λ(i:Nat)=>b.1+8*(i:Int)
theorem GY (bi:gL b){z:Int}(hz:z∈Qv b):b.1<=z/\z%8=0/\z+8<=b.1+YI b.2.1:=by
 obtain⟨s,⟨j,e⟩,⟨u,g,p⟩,⟨t,r⟩,m⟩:=bi;have d:=ZK (n:=b.2.1) O;obtain⟨i,a,rfl⟩:=zE.1 hz;have:=zd.1 a;unfold ud at this;omega
theorem GP.write (p:GP σ0 U L H held s0 P gb km fm x)(gc:Gc σ0)(z u:Int)(hz:z<=9223372036854775807){R:aN}
 (hR:∀w s0' P',Ext P U w->GP σ0 w L {H with sp:=W5 H.sp z u} held s0' P' gb km fm x->(∀c,P' c->P c\/U.size<=c)->R (dT H.sp z) w):WN.c (aW L.p) z u U R:=by
 refine NR p.h (gc.bO p.e) z u hz λw e a=>?_;exact hR w _ _ e (p.step (ts':=L.ts) e a (p.hi.write z u) ⟨rfl,rfl,rfl,rfl⟩) λc b=>b.1
theorem DJ {D:Nat}{s:Hp}{K:aP}(h:s[D]?=some (.deferred (some [])))(hK:∀w,Ext (· = D) s w->K w):uO D s K:=
 ⟨h,hK _ ⟨by simp,λb d a=>by rw[Array.getElem?_setIfInBounds,zB λh=>a h.symm]⟩⟩
set_option maxRecDepth 8000 in
theorem EK (p:GP σ0 U L H held s0 P gb km fm x)(gc:Gc σ0)(bi:gL b)(val:Int){R:aP}
 (hR:∀w s0' P',Ext P U w->GP σ0 w L {H with sp:=j6 H.sp (Qv b) λ_=>val} held s0' P' gb km fm x->(∀c,P' c->P c\/U.size<=c)->R w):Yf.c (aW gb) b.1 b.2.1 b.2.2.1 b.2.2.2.1 b.2.2.2.2 val U R:=by
 obtain⟨⟨s1,s2⟩,⟨V,W⟩,⟨N,X,Y⟩,⟨t,S⟩,Z⟩:=bi;have Q:=ZK (n:=b.2.1) O;have M:(ud b:Int)*8=YI b.2.1:=by unfold ud;omega
 refine Yf.o ?_;unfold Yf.v;refine nw (cs:=eW b) λv K e D=>?_;refine Qc (a:=bN) (λ(z:Int) u=>∃(i:Nat) (s0':Sp) (P':Rg),z=8*(i:Int)/\i<=ud b/\Ext P v u/\bY u U.size (eW b)/\GP σ0 u L {H with sp:=j6 H.sp ((List.range i).map λ(j:Nat)=>b.1+8*(j:Int)) λ_=>val} held s0' P' gb km fm x/\∀c,P' c->P c\/v.size<=c) (λz _=>(YI b.2.1-z).toNat)
  ⟨0,s0,P,O,O,Ext.refl _ _,D,p.fr e,λc d=>.inl d⟩ ?_
 rintro(z:Int) u ⟨i,s0',P',rfl,hi,eu,hbu,pu,hP⟩;refine hbu.rI rfl (hbu.rI rfl (hbu.rI rfl (hbu.rI rfl (hbu.rI rfl (Hl b O O λF e1=>?_)))));have m:=e1.bT hbu id;have r:=pu.fr e1;refine cP (λE=>?_) λJ=>?_
 ·refine bK (r.b.rP rfl (m.eZ rfl (ar O O (r.write gc _ val O λu2 g P'' e2 A y=>?_))));have B:=e1.1;have C:=eu.1;refine ar O O ⟨⟨i+1,g,P'',O,O,Ext.dW (eu.jU e1) e2 hP,e2.bT m λG=>?_,?_,λc d=>?_⟩,O⟩
  ·rcases hP _ G with h|h
   ·have:=(p.pP _ h).2;omega
   ·omega
  ·rw[ox,zy,List.map_singleton,DL];exact A
  ·rcases y c d with h|h
   ·exact hP c h
   ·exact .inr O
 ·have s:i=ud b:=by omega
  subst s;refine hR F _ _ ((aG.to e).trans (eu.jU e1)) r λc d=>?_;have:=e.1;exact(hP c d).imp id λh=>by omega
def jl (sp:Sp)(z:Int):Bool:=dT sp z != 0||QJ sp z != gF z
def QW (sp:Sp)(b:B5):List Int:=(XV b).filter (jl sp)
set_option maxRecDepth 16000 in
theorem HF (p:GP σ0 U L H held s0 P gb km fm x)(bi:gL b){R:Sl->Hp->Prop}
 (hR:∀s w Q,aG U w->bR s 1 (Wj (QW H.sp b)) w Q->(∀c,Q c->U.size<=c/\c<w.size)->R s w):Xb.c (aW gb) b.1 b.2.1 b.2.2.1 b.2.2.2.1 b.2.2.2.2 U R:=by
 refine Xb.o ?_;unfold Xb.v;refine nw (cs:=[.pointer (some ⟨gb,0,none⟩)]) λv1 hz1 e1 b1=>nw (cs:=eW b) λN hz2 e2 b2=>nw (cs:=[.slice none 0 0]) λv3 hz3 Y b3=>?_;have y:=Y.bT b2 id;have V:=(e2.trans Y).bT b1 id;refine y.rI rfl (y.rI rfl (y.rI rfl (y.rI rfl (y.rI rfl (Ir b λv4 hz4 e4 b4=>?_)))));have e04:=((e1.trans e2).trans Y).trans e4;have hzs:(XV b).length<=100000:=by
  obtain⟨⟨s1,s2⟩,⟨b1,b2⟩,⟨z1,z2,z3⟩,⟨t,t2⟩,hm⟩:=bi;have hw:=ZK (n:=b.2.1) O;rw[Gk];unfold QH Ue;omega
 refine⟨rfl,by kernel_rfl,XV b,_,λk s=>aG U s/\bY s U.size [.pointer (some ⟨gb,0,none⟩)]/\bY s v3.size (eW b)/\∃(sl:Sl) (Q:Rg),bY s N.size [.slice sl.a sl.len sl.cap]/\bR sl 1 (Wj (((XV b).take k).filter (jl H.sp))) s Q/\∀c,Q c->v4.size+2<=c/\c<s.size,Fz bi,?_,λk s h=>h.2.2.1,?_,?_,?_⟩
 ·rintro k s s' ⟨B,D,K,sl,Q,C,E,A⟩ e;have hz:=e.1;refine⟨Ext.dW B e λc d=>.inr O,e.bT D O,e.bT K O,sl,Q,e.bT C O,aI.bS E e λc _ W d=>?_,λc d=>?_⟩
  ·have:=A c W;omega
  ·have:=A c d;omega
 ·exact⟨e04,(e4).bT V id,b4,⟨none,0,0⟩,λ_=>False,e4.bT b3 id,⟨rfl,.inl ⟨rfl,rfl⟩⟩,λc d=>d.elim⟩
 ·rintro k z X s ⟨B,D,K,sl,Q,C,E,A⟩ hsz;have zi:=UG bi (zG X);have M:=bi.base;have hm:=bi.m;have hkl:=(cX.1 X).1;have ps:=p.fr B;have F:(XV b).take (k+1)=(XV b).take k++[z]:=by rw[kN,X];rfl
  refine D.rf rfl (bK (ps.b.rP rfl (Ck ps.h z O λv5 g=>?_)));have hz5:=g.1;refine KY (λr u=>u=v5/\r=jl H.sp z) (λr u ⟨hu,hr⟩=>?_) λJ hJ=>?_
  ·subst hu;have G:=aI.bO E g;have i:∀c,Q c->c≠v4.size/\c≠v4.size+1/\c≠U.size/\c≠v3.size/\c≠N.size:=λc d=>by have:=A c d;omega
   refine cO (λM=>?_) λM=>?_
   ·refine(g.bT C id).vd rfl (EW G ?_ z λs' v8 S h8=>?_)
    ·have B:=rh (jl H.sp) ((XV b).take k);rw[za]at B;omega
    have hz8:=S.1;have Z:=S.bT (g.bT C id) λd=>(i _ d).2.2.2.2 rfl;refine Z.s0 aA λv9 o9 h9=>?_;have e9:=o9.ext;have hz9:=o9.1;have j:Ext (λc=>Q c\/c=N.size) u v9:=(S.sub λc d=>.inl d).trans (e9.sub λc d=>.inr d);refine⟨⟨Ext.dW (B.trans g) j λc d=>?_,j.bT (g.bT D id) ?_,j.bT (g.bT K id) ?_,s',λc=>Q c\/u.size<=c/\c<v8.size,h9,?_,λc d=>?_⟩,?_,?_⟩
    ·rcases d with d|d
     ·have:=A c d;exact .inr O
     ·exact .inr O
    ·rintro(d|d)
     ·exact(i _ d).2.2.1 rfl
     ·omega
    ·rintro(d|d)
     ·exact(i _ d).2.2.2.1 rfl
     ·omega
    ·have:((XV b).take (k+1)).filter (jl H.sp)=((XV b).take k).filter (jl H.sp)++[z]:=by
      rw[F,uB,tG (by rw[←hr];exact M)];rfl
     rw[this];refine aI.bS h8 e9 λc _ d (hx:c=N.size)=>?_;rcases d with d|d
     ·exact(i _ d).2.2.2.2 hx
     ·omega
    ·rcases d with d|d
     ·have:=A c d;omega
     ·omega
    ·rw[j.2 _ O (by rintro(d|d);exact(i _ d).1 rfl;omega)];exact g.2 _ O id
    ·rw[j.2 _ O (by rintro(d|d);exact(i _ d).2.1 rfl;omega)];exact g.2 _ O id
   ·refine⟨⟨B.trans g,g.bT D id,g.bT K id,sl,Q,g.bT C id,?_,λc d=>?_⟩,g.2 _ O id,g.2 _ O id⟩
    ·have:((XV b).take (k+1)).filter (jl H.sp)=((XV b).take k).filter (jl H.sp):=by
      rw[F,uB,sr (by rw[←hr,M];decide),List.filter_nil,kI]
     rw[this];exact G
    ·have:=A c d;omega
  ·refine cO (λh=>hJ _ _ ⟨rfl,by unfold jl;rw[h];rfl⟩) λh=>Dh z O O (hJ _ _ ⟨rfl,by unfold jl;rw[h];rfl⟩)
 ·rintro s ⟨B,D,K,sl,Q,C,E,A⟩ hD;rw[l0]at E;refine C.vd rfl (DJ hD λw ew=>?_);have hz:=ew.1;refine hR sl w Q (Ext.dW B ew λc d=>.inr O) (aI.bS E ew λc _ W d=>?_) λc d=>?_
  ·have:=A c W;omega
  ·have:=A c d;omega
end Go.Ar
namespace Go.Ar
open Go Go.Vc Go.Proofs
open Go.Vc (bU dA cR)
variable {U w w':Hp}{F P Q X:Rg}{L:dI}{H H':Hw}{held:List Pc}{s0:Sp}{t n:Nat}{g:Th}{σ0:Hp}{addrs:Sl}{ad:List Int}{l:Sl}{ds:List eY}
theorem ie.push (p:ie σ0 U L H held s0 P Q addrs ad){s':Sl}{x:Int}(e:Ext Q U w)(hr:bR s' 1 (Wj (ad++[x])) w (λb=>Q b\/U.size<=b/\b<w.size))(hl:(ad++[x]).length<=60):ie σ0 w L H held s0 P (λb=>Q b\/U.size<=b/\b<w.size) s' (ad++[x]):=by
 have j:=e.1;have g:=p.e.1;refine⟨Ext.dW p.e e λb a=>.inr (p.pQ b a).1,p.h.bS e (λb a d i=>(p.pQ b i).2.2 d) (λb a=>p.g0.1 b (p.pQ b a).1) (λa=>p.g0.2 (p.pQ _ a).1),p.hi,p.cf,p.pg,λb a=>⟨(p.pP b a).1,by have:=(p.pP b a).2;omega⟩,λb a=>?_,hr,hl,p.g0⟩;rcases a with a|a
 ·exact⟨(p.pQ b a).1,by have:=(p.pQ b a).2.1;omega,(p.pQ b a).2.2⟩
 ·exact⟨O,a.2,λd=>by have:=(p.pP b d).2;omega⟩
theorem Iy {tb:List bZ}{size align:Int}{k:Nat}(h:gP tb size align=some k):∃c,tb[k]?=some c/\size<=(c.size:Int)/\(c.size:Int)%align=0:=by
 unfold gP at h;obtain⟨b,a,_⟩:=nm.1 h;simp only[zF,zU,zT]at a;exact⟨tb[k],cU b,a.1,a.2⟩
theorem MI {tb:List bZ}{size align:Int}(h:size<=16384/\UR size align=true):size<=(oC tb size align).1/\(oC tb size align).2=0:=by
 unfold oC;rw[zC h];refine⟨?_,rfl⟩;cases hc:gP tb size align with
 | some k=>
  obtain⟨c,b,a,_⟩:=Iy hc;simp only;rw[zP,b];exact a
 | none=>simp only;unfold xQ;omega
theorem CF {live:List (Int×Bk)}{x:Int}(b:Bk):bU (dA live x b) x=some b:=by rw[VJ,zC rfl]
end Go.Ar
namespace Go.Ar
open Go Go.Vc Go.Proofs
open Go.Vc (bU dA cR)
open Go.Bu (eV Vi UZ)
variable {size align:Int}{U σ0 v w w':Hp}{F P Q X T:Rg}{L:dI}{H H' H1:Hw}{held:List Pc}{s0 sp:Sp}{t n:Nat}{g:Th}{gb km fm m:Nat}{x y:Gu}{b:B5}
theorem _root_.Go.Vc.bY.s2 {U:Hp}{b o i j:Nat}{cs:List Value}(hb:bY U b cs){v:Value}(ho:o+i+j<cs.length){K:aP}(hK:∀h',QB U h' b->bY h' b (cs.set (o+i+j) v)->K h'):dU (Addr.add (Addr.add ⟨b,o,none⟩ i) j) v U K:=by
 rw[add_lit];exact hb.s1 ho hK
def Mg (P:Rg)(gb km fm:Nat):Rg:=λb=>P b\/b=gb\/b=km\/b=fm
def nt (size align:Int):Bool:=decide (1<=size/\size<=1024/\1<=align/\align<=256)&&eV align
def zA (align:Int):Int:=if 16>align then 16 else align
theorem vD {align:Int}(h:align<=256):16<=zA align/\zA align<=256:=by unfold zA;split<;>omega
structure yu (H:Hw) (x:Gu) (size align:Int) (b:B5) (H1:Hw):Prop where
 me:qL H (zA align+YI size+16) (zA align) H1 b.2.2.1 0
 a:b.1=b.2.2.1+zA align
 s:b.2.1=size
 u:Kx H1 b.2.2.1=some b.2.2.2.1
 n:b.2.2.2.2=x.no+1
 ok:nt size align=true
 bi:gL b
def l8 (sp:Sp)(b:B5):Sp:=j6 (j6 sp (XV b) gF) (Qv b) λ_=>0
def Gu.fM (x:Gu)(b:B5):Gu:=⟨dA x.kn b.1 b,x.fr,x.no+1⟩
theorem CE {a:Int}(h1:1<=a)(h2:a<=256)(hp:eV a=true):a%8=0\/a<8:=by
 by_cases h:a<8
 ·exact .inr h
 ·left;obtain⟨a,rfl⟩:=zc (show 0<=a by omega);rw[Vi]at hp;have key:∀a:Nat,a<=256->8<=a->(a &&& (a-1)=0)->a%8=0:=by decide +kernel
  have:=key a O O (by have:=UZ (a:=a) O O;rw[hp]at this;simpa using this);omega
theorem Oy (hi:HI H1 held s0)(hok:nt size align=true){base:Int}(me:qL H (zA align+YI size+16) (zA align) H1 base 0):∃u,Kx H1 base=some u/\gL (base+zA align,size,base,u,x.no+1):=by
 unfold nt at hok;rw[zF,zU]at hok;obtain⟨⟨i,r,j,g⟩,kp⟩:=hok;have y:=vD g;have s:=ZK (n:=size) O;rcases me with⟨h,_⟩|⟨_,hm,hok,cl,hl,hcl⟩
 ·exact absurd rfl h
 have e:Kx H1 base=some (oC H.tb (zA align+YI size+16) (zA align)).1:=by unfold Kx;rw[hl,CF];rfl
 have m:=(MI (tb:=H.tb) ⟨hok.2.1,hok.2.2⟩).1;obtain⟨w,b,d⟩:=oT.1 e;have a:=hi.iW (Vb b);simp only at a;rw[d]at a;have p:zA align%8=0:=by
  unfold zA;split
  ·decide
  ·rcases CE j g kp with h|h
   ·exact h
   ·omega
 exact⟨_,e,⟨⟨i,r⟩,⟨a.2.1,a.2.2.1⟩,⟨by simp only;omega,by simp only;omega,by simp only;omega⟩,⟨by simp only;omega,a.2.2.2.1⟩,by simp only;omega⟩⟩
set_option maxRecDepth 16000 in
theorem FZ (p:GP σ0 U L H held s0 P gb km fm x)(gc:Gc σ0)(x0:0<=x.no/\x.no<=100000)(thread size align:Int){R:Int->Int->Hp->Prop}
 (h0:∀w,nt size align=false->aG U w->R 0 1 w)
 (h1:∀e w ts H' held' s0' P',nt size align=true->e≠0->Uh H thread 0 (zA align+YI size+16) (zA align) 0 H' 0 e->gg H H'->H'.live=H.live->Ext P U w->GP σ0 w {L with ts:=ts} H' held' s0' P' gb km fm x->(∀c,P' c->P c\/U.size<=c)->R 0 e w)
 (h2:∀b w ts H1 held' s0' P',yu H x size align b H1->Uh H thread 0 (zA align+YI size+16) (zA align) 0 H1 b.2.2.1 0->gg H H1->Ext (Mg P gb km fm) U w->GP σ0 w {L with ts:=ts} {H1 with sp:=l8 H1.sp b} held' s0' P' gb km fm (x.fM b)->(∀c,P' c->P c\/U.size<=c)->R b.1 0 w) :
 Xt.c (aW gb) thread size align U R:=by
 refine Xt.o ?_;unfold Xt.v;rw[show(if(16:Int)>align then(16:Int)else align)=zA align from rfl]
 refine nw (cs:=[.pointer (some ⟨gb,0,none⟩)]) λv hz e hn4=>hn4.rf rfl (Vv (p.fr e) (cB rfl ?_));refine KY (λr u=>u=v/\r = !decide (1<=size/\size<=1024)) (λr u ⟨hu,hr⟩=>?_) λJ hJ=>cP (λh=>hJ _ _ ⟨rfl,by rw[zN O];rfl⟩) λh=>hJ _ _ ⟨rfl,?_⟩
 ·rw[hu];refine KY (λr u=>u=v/\r = !decide (1<=size/\size<=1024/\1<=align)) (λr1 u1 ⟨hu1,hr1⟩=>?_) λJ1 hJ1=>?_
  ·rw[hu1];refine KY (λr u=>u=v/\r = !decide (1<=size/\size<=1024/\1<=align/\align<=256)) (λr2 u2 ⟨hu2,hr2⟩=>?_) λJ2 hJ2=>?_
   ·rw[hu2];refine KY (λr u=>u=v/\r = !nt size align) (λr3 u3 ⟨hu3,hr3⟩=>?_) λJ3 hJ3=>?_
    ·rw[hu3];clear hr hr1 hr2 hu hu1 hu2 hu3;by_cases hgk:nt size align=true
     ·refine cB (by rw[hr3,hgk];rfl) ?_;have hk:=hgk;unfold nt at hk;rw[zF,zU]at hk;obtain⟨⟨k1,k2,k3,k4⟩,kp⟩:=hk;have hzz:=vD k4;have hww:=ZK (n:=size) O;refine nw (cs:=[.int .i64 0,.int .i64 0,.int .i64 0,.int .i64 0,.int .i64 0]) λv6 hz6 e6 b6=>?_;refine b6.s1 aA λv7 o7 b7=>b7.s1 aA λv8 o8 b8=>b8.s1 aA λv9 o9 b9=>b9.s1 aA λv10 fP b10=>b10.s1 aA λv11 o11 b11=>?_;have bb:bY v11 v.size (eW (0,size,0,0,0)):=b11;have eo:Ext (· = v.size) v6 v11:=(((o7.ext.trans o8.ext).trans o9.ext).trans fP.ext).trans o11.ext;have e11:aG v v11:=Ext.fresh e6 eo λi (hi:i=v.size)=>by omega
      have p11:=(p.fr e).fr e11;have Q:=e11.bT hn4 id;have zv:U.size<v.size:=by omega
      have zb:=bb.lt;refine⟨λm=>bY m U.size [.pointer (some ⟨gb,0,none⟩)]/\bY m gb (r6 L.p km fm x)/\bY m v.size (eW (0,size,0,0,0)),⟨Q,p11.b,bb⟩,?_⟩;refine tn (c:=.p) (y:=some ⟨gb,0,none⟩) (λm K=>K.1) rfl (bK (gp (c:=.p) (y:=some ⟨L.p,0,none⟩) (λm K=>K.2.1) rfl ?_));refine gp (c:=bN) (y:=0) (λm K=>K.2.2) rfl (gp (c:=bN) (y:=size) (λm K=>K.2.2) rfl (gp (c:=bN) (y:=0) (λm K=>K.2.2) rfl (gp (c:=bN) (y:=0) (λm K=>K.2.2) rfl (gp (c:=bN) (y:=0) (λm K=>K.2.2) rfl ?_))));refine Hl (0,size,0,0,0) aC aC λv12 B=>⟨⟨B.bT Q id,B.bT p11.b id,B.bT bb id⟩,?_⟩;refine ar aC aC (ar aC aC ?_);have p12:=p11.fr B;have e012:=(e.trans e11).trans B;have z1112:=B.1;obtain⟨H',a,er,hw,o,me⟩:=Te p.hi thread (zA align+YI size+16) (zA align);obtain⟨held',s0',hi'⟩:=o.hi;refine SR Fm p12.h p12.cf.2.2 hw λv13 ts G h13=>?_;have A:=p12.step G h13 hi' o.kp;have z12:=e012.1;have z13:=G.1;have nP:∀c,U.size<=c->¬P c:=λc h1 h2=>by have:=(p.pP c h2).2;omega
      have S:=G.bT (B.bT Q id) (nP _ (zD _));have bb13:=G.bT (B.bT bb id) (nP _ O);refine⟨⟨S,G.bT p12.b p.rJ.2,bb13⟩,?_⟩;generalize hP1:Cut (Grow P v12) v13=P1 at A;have E:∀c,P1 c->P c\/U.size<=c:=λc d=>by
       rw[←hP1]at d;exact d.1.imp id λh=>by omega
      have M:∀c,P1 c->c<v13.size:=λc d=>by rw[←hP1]at d;exact d.2
      have F:∀c,c<v12.size->¬P c->¬P1 c:=λc h1 h2 C=>by
       rw[←hP1]at C;rcases C.1 with h4|h4
       ·exact h2 h4
       ·omega
      have E13:Ext P U v13:=(aG.to e012).trans G;refine cO (λhne=>?_) λheq=>?_
      ·have hne':er≠0:=by simpa using hne
       rcases me with⟨_,ha,hl⟩|⟨h,_⟩
       ·subst ha;exact h1 er v13 ts H' held' s0' P1 hgk hne' hw o hl E13 A E
       ·exact absurd h hne'
      ·have he0:er=0:=by simpa using heq
       subst he0;obtain⟨u,hu,bi⟩:=Oy (x:=x) (size:=size) (align:=align) hi' hgk me;obtain⟨b,g⟩:∃b:B5,b=(a+zA align,size,a,u,x.no+1):=⟨_,rfl⟩;rw[←g]at bi;have hbs:=bi.base;have hbm:=bi.m;have hbz:=bi.z;have hbt:=bi.t;have hb1:b.1=a+zA align:=by rw[g]
       have hb2:b.2.1=size:=by rw[g]
       rw[hb2]at hbt;have W:b.2.2.1=a:=by rw[g]
       have hb4:b.2.2.2.1=u:=by rw[g]
       rw[W]at hbs;have gr:yu H x size align b H':=⟨by rw[W];exact me,by rw[hb1,W],by rw[g],by rw[W,hb4];exact hu,by rw[g],hgk,bi⟩;have hgb13:=A.b.lt;have hvg:v.size≠gb:=λh=>by have:=p.b.lt;omega
       have hsg:U.size≠gb:=λh=>by have:=p.b.lt;omega
       have hvk:v.size≠km:=λh=>by have:=p.m.lt;omega
       have hsk:U.size≠km:=λh=>by have:=p.m.lt;omega
       have hvf:v.size≠fm:=λh=>by have:=p.f.lt;omega
       refine S.rf rfl (bK (A.b.rI rfl (ar O O (bK (A.b.s1 (by simp[r6]) λX D b14=>?_)))));have p14:GP σ0 X {L with ts:=ts} H' held' s0' P1 gb km fm {x with no:=x.no+1}:=A.fo (D.ext.sub λc d=>.inl d) b14 (D.ext.fS A.m λ(h:km=gb)=>p.n1 h.symm) (D.ext.fS A.f λ(h:fm=gb)=>p.n2 h.symm);have hn14:=D.ext.bT S hsg;have bb14:=D.ext.bT bb13 hvg;refine hn14.rf rfl (bK (p14.b.rI rfl (ar O O ?_)));refine bb14.s1 (by simp[eW]) λv15 o15 b15=>b15.s2 (by simp[eW]) λv16 o16 b16=>b16.s2 (by simp[eW]) λv17 o17 b17=>?_;have e17:Ext (· = v.size) X v17:=(o15.ext.trans o16.ext).trans o17.ext;have hout:∀c,c<X.size->c=v.size->¬P1 c/\c≠gb/\c≠km/\c≠fm/\σ0.size<=c:=λc _ d=>by
        subst d;have:=p.e.1;exact⟨F _ O (nP _ O),hvg,hvk,hvf,O⟩
       have p17:=p14.out e17 hout;have hn17:=e17.bT hn14 (show ¬U.size=v.size by omega);refine hn17.rf rfl (bK (p17.b.rP rfl (DC p17.h a λv18 V=>?_)));rw[hu];refine(V.bT b17 id).s2 (by simp[eW]) λv19 o19 b19=>?_;have j:bY v19 v.size (eW b):=by rw[g];exact b19
       have p18:=p17.fr V;have z17:=o17.1;have z16:=o16.1;have z15:=o15.1;have z14:=D.1;have z18:=V.1;have z19:=o19.1;have p19:=p18.out o19.ext λc hc1 (d:c=v.size)=>by
        subst d;have:=p.e.1;exact⟨F _ O (nP _ O),hvg,hvk,hvf,O⟩
       have hn19:=o19.ext.bT (V.bT hn17 id) (show ¬U.size=v.size by omega);have E19:Ext (Mg P gb km fm) U v19:=by
        refine Ext.dW (((((E13.sub λc d=>.inl d).trans (D.ext.sub λc d=>.inr (.inl d))))):Ext (Mg P gb km fm) U X) (((e17.trans (aG.to V)).trans o19.ext):Ext (· = v.size) X v19) λc (d:c=v.size)=>.inr O
       refine j.rI rfl (j.rI rfl (j.rI rfl (j.rI rfl (j.rI rfl (Ir b λv20 hz20 N b20=>?_)))));have p20:=p19.fr N;have hn20:=N.bT hn19 id;have bb20:=N.bT j id;have z20:=N.1;have E20:Ext (Mg P gb km fm) U v20:=E19.jU N;refine⟨rfl,by kernel_rfl,XV b,_,λk s=>Ext (Mg P gb km fm) U s/\v20.size<=s.size/\bY s U.size [.pointer (some ⟨gb,0,none⟩)]/\bY s v.size (eW b)/\bY s v19.size (eW b)/\∃(s0':Sp) (P':Rg),GP σ0 s {L with ts:=ts} {H' with sp:=j6 H'.sp ((XV b).take k) gF} held' s0' P' gb km fm {x with no:=x.no+1}/\∀c,P' c->P1 c\/v20.size+2<=c,Fz bi,?_,λk s h=>h.2.2.2.2.1,?_,?_,?_⟩
       ·rintro k s s' ⟨i1,i2,i3,Z,i5,s1',P',i6,Y⟩ es;have zs:=es.1;have nn:∀c,c<v20.size->¬(c=v20.size\/c=v20.size+1):=λc h=>by omega
        refine⟨Ext.dW i1 es λc d=>.inr O,O,es.bT i3 (nn _ O),es.bT Z (nn _ O),es.bT i5 (nn _ O),s1',P',i6.out es λc _ d=>?_,Y⟩;have:=p.e.1;have g1:=p.b.lt;have g2:=p.m.lt;have g3:=p.f.lt;refine⟨λhx=>?_,O,O,O,O⟩;rcases Y c hx with h|h
        ·have:=M c h;omega
        ·omega
       ·exact⟨E20,zD _,hn20,bb20,b20,s0',P1,p20,λc d=>.inl d⟩
       ·rintro k (z:Int) hk s ⟨i1,i2,i3,Z,i5,s1',P',i6,Y⟩ hsz;have zi:=UG bi (zG hk);have hzk:0<=z/\z<=1000000:=by
         have z1:=zi.1;have z2:=zi.2.2.1;have h0:=bi.base.1;omega
        have htk:(XV b).take (k+1)=(XV b).take k++[z]:=by rw[kN,hk];rfl
        have n7:∀c,c<v20.size+2->(¬P1 c)->¬P' c:=λc h1 h2 C=>(Y c C).elim h2 λh=>by omega
        have q1:¬P1 U.size:=F _ O (nP _ (zD _));have q2:¬P1 v.size:=F _ O (nP _ O);have q3:∀c,v13.size<=c->¬P1 c:=λc h1 h2=>by have:=M c h2;omega
        refine⟨λm=>bY m U.size [.pointer (some ⟨gb,0,none⟩)]/\bY m gb (r6 L.p km fm {x with no:=x.no+1}),⟨i3,i6.b⟩,tn (c:=.p) (y:=some ⟨gb,0,none⟩) (λm h=>h.1) rfl (bK (gp (c:=.p) (y:=some ⟨L.p,0,none⟩) (λm h=>h.2) rfl ?_))⟩;refine Dh z hzk.1 hzk.2 ⟨⟨i3,i6.b⟩,?_⟩;refine i6.write gc z (gF z) O λs2 s2' P2 e2 p2 hP2=>?_;have zs2:=e2.1;have i3':=e2.bT i3 (n7 _ O q1);refine⟨⟨i3',p2.b⟩,⟨Ext.dW i1 e2 λc d=>?_,O,i3',e2.bT Z (n7 _ O q2),e2.bT i5 (n7 _ O (q3 _ O)),s2',P2,?_,λc d=>?_⟩,e2.2 _ O (n7 _ O (q3 _ O)),e2.2 _ O (n7 _ O (q3 _ O))⟩
        ·rcases Y c d with h|h
         ·exact(E c h).imp .inl id
         ·exact .inr O
        ·rw[htk,DL];exact p2
        ·rcases hP2 c d with h|h
         ·exact Y c h
         ·exact .inr O
       ·rintro s ⟨i1,i2,i3,Z,i5,s1',P',i6,Y⟩ hD;rw[l0]at i6;have n7:∀c,c<v20.size+2->(¬P1 c)->¬P' c:=λc h1 h2 C=>(Y c C).elim h2 λh=>by omega
        have q1:¬P1 U.size:=F _ O (nP _ (zD _));have q2:¬P1 v.size:=F _ O (nP _ O);have q3:∀c,v13.size<=c->¬P1 c:=λc h1 h2=>by have:=M c h2;omega
        refine i3.rf rfl (Z.rI rfl (Z.rI rfl (Z.rI rfl (Z.rI rfl (Z.rI rfl (EK i6 gc bi 0 λs2 s2' P2 e2 p2 hP2=>?_))))));have zs2:=e2.1;have hlt:=(zz.1 hD).1;have i3':=e2.bT i3 (n7 _ O q1);have i4':=e2.bT Z (n7 _ O q2);have hS:∀m,(bY m U.size [.pointer (some ⟨gb,0,none⟩)]/\bY m gb (r6 L.p km fm {x with no:=x.no+1})/\bY m v.size (eW b))->bY m v.size (eW b):=λm h=>h.2.2;refine⟨λm=>bY m U.size [.pointer (some ⟨gb,0,none⟩)]/\bY m gb (r6 L.p km fm {x with no:=x.no+1})/\bY m v.size (eW b),⟨i3',p2.b,i4'⟩,tn (c:=.p) (y:=some ⟨gb,0,none⟩) (λm h=>h.1) rfl (bK (gp (c:=.m) (y:=some km) (λm h=>h.2.1) rfl ?_))⟩;refine pd (c:=bN) (y:=b.1) hS rfl (gp (c:=bN) (y:=b.1) hS rfl (gp (c:=bN) (y:=b.2.1) hS rfl (gp (c:=bN) (y:=b.2.2.1) hS rfl (gp (c:=bN) (y:=b.2.2.2.1) hS rfl (gp (c:=bN) (y:=b.2.2.2.2) hS rfl ⟨km,x.kn,rfl,p2.m,λs3 o3 m3=>?_⟩)))));have p3:GP σ0 s3 {L with ts:=ts} {H' with sp:=l8 H'.sp b} held' s2' P2 gb km fm (x.fM b):=p2.fo (y:=x.fM b) (o3.ext.sub λc d=>.inr (.inl d)) (o3.ext.bT p2.b p.n1) m3 (o3.ext.fS p2.f λ(h:fm=km)=>p.n3 h.symm);have zs3:=o3.1;have hkm:=p.m.lt;have hfm:=p.f.lt;have hgb:=p.b.lt;have hD3:s3[v20.size]?=some (.deferred (some [])):=(o3.2 _ O).trans ((e2.2 _ hlt (n7 _ O (q3 _ O))).trans hD);refine(o3.ext.bT i4' hvk).eZ rfl (DJ hD3 λs4 e4=>?_);have hP2':∀c,P2 c->P c\/U.size<=c:=λc d=>by
         rcases hP2 c d with h|h
         ·rcases Y c h with h|h
          ·exact E c h
          ·exact .inr O
         ·exact .inr O
        refine h2 b s4 ts H' held' s2' P2 gr (by rw[W];exact hw) o ?_ (p3.out e4 λc _ (d:c=v20.size)=>?_) hP2'
        ·have E1:Ext (Mg P gb km fm) U s2:=Ext.dW i1 e2 λc d=>by
          rcases Y c d with h|h
          ·exact(E c h).imp .inl id
          ·exact .inr O
         have E2:Ext (Mg P gb km fm) U s3:=E1.trans (o3.ext.sub λc d=>.inr (.inr (.inl d)));exact Ext.dW E2 e4 λc (d:c=v20.size)=>.inr O
        ·subst d;have:=p.e.1;refine⟨λhx=>?_,O,O,O,O⟩;rcases hP2 _ hx with h|h
         ·exact n7 _ O (q3 _ O) h
         ·omega
     ·exact cC (by rw[hr3];simp[hgk]) (h0 v (by simpa using hgk) e)
    ·by_cases g:1<=size/\size<=1024/\1<=align/\align<=256
     ·refine cB (by rw[hr2,zJ g];rfl) (ar O O (hJ3 _ _ ⟨rfl,?_⟩));rw[PY g.2.2.1 g.2.2.2];unfold nt;rw[zJ g];rfl
     ·refine cC (by rw[hr2,zN g];rfl) (hJ3 _ _ ⟨rfl,?_⟩);unfold nt;rw[zN g];rfl
   ·by_cases g:1<=size/\size<=1024/\1<=align
    ·refine cB (by rw[hr1,zJ g];rfl) (hJ2 _ _ ⟨rfl,?_⟩);by_cases C:align>256
     ·rw[zJ C,zN O];rfl
     ·rw[zN C,zJ O];rfl
    ·exact cC (by rw[hr1,zN g];rfl) (hJ2 _ _ ⟨rfl,by rw[zN O];rfl⟩)
  ·by_cases g:1<=size/\size<=1024
   ·refine cB (by rw[hr,zJ g];rfl) (hJ1 _ _ ⟨rfl,?_⟩);by_cases C:align<1
    ·rw[zJ C,zN O];rfl
    ·rw[zN C,zJ O];rfl
   ·exact cC (by rw[hr,zN g];rfl) (hJ1 _ _ ⟨rfl,by rw[zN O];rfl⟩)
 ·by_cases C:size>1024
  ·rw[zJ C,zN O];rfl
  ·rw[zN C,zJ O];rfl
end Go.Ar
namespace Go.Ar
open Go Go.Vc Go.Proofs Go.RowKit Go.Sort Go.Shelf Go.Lib
variable {U:Hp}{F Q:Rg}{s:Sl}{xs:List Int}
theorem PN (hrow:bR s 1 (Wj xs) U F)(hlen:xs.length<=1000000){R:aP}(hR:∀ys w,ys.Perm xs->Ext F U w->bR s 1 (Wj ys) w F->R w):Vf.c s U R:=by
 rintro w rfl;have C:s.len=xs.length:=by have:=hrow.1;simp[Wj]at this;omega
 rcases hrow.2 with⟨h0,hc0⟩|⟨b,cs,hF,ha,hb,hle,hcl,ht⟩
 ·have G:xs=[]:=xm.1 O;have:=AnyM.slices_Sort_int_none Tryz.kR s.a s.cap w;show Calls _ _ #[.slice s.a s.len s.cap] w _;rw[h0];refine this.mono ?_;rintro e E ⟨rfl,rfl⟩;exact⟨.refl _,[],rfl,hR xs _ (.refl _) (Ext.refl _ _) hrow⟩
 ·have r:=hb.lt;have M:Holds (Value.int .i64) w b 0 xs.toArray:=by
   intro j hj;have i:j<xs.length:=by simpa using hj
   have L:Vc.cell w.heap ⟨b,0+j,none⟩=some (.int .i64 xs.toArray[j]!):=by
    rw[hb.cell,zH];have:(cs.take (Wj xs).length)[j]?=some (.int .i64 xs[j]):=by rw[ht];simp[Wj,i]
    rw[zk,zC (by simpa[Wj]using i)]at this;rw[this,getElem!_pos xs.toArray j hj];simp
   exact⟨L,hb.nh⟩
  have m:=AnyM.slices_Sort_int Tryz.kR b 0 s.cap xs w M r O;show Calls _ _ #[.slice s.a s.len s.cap] w _;rw[ha,C];refine m.mono ?_;rintro e E ⟨rfl,n,os,rfl⟩;obtain⟨ys,p⟩:∃ys,ys=xs.mergeSort λx y=>decide (x<=y):=⟨_,rfl⟩;have D:ys.Perm xs:=by rw[p];exact B1 _ _
  have N:ys.length=xs.length:=D.length_eq;rw[←p];obtain⟨J,z⟩:=hb;have d:(grow (putRow (Value.int .i64) (Sort.ahead w n) b 0 ys.toArray) os).heap=(w.heap.modify b (onCells (putCells (Value.int .i64) 0 ys.toArray)))++os:=rfl;have g:(w.heap.modify b (onCells (putCells (Value.int .i64) 0 ys.toArray))).size=w.heap.size:=by simp
  refine⟨⟨rfl,rfl,rfl,by rw[d,yB,g];omega⟩,[],rfl,?_⟩;rw[d];have u:Ext F w.heap ((w.heap.modify b (onCells (putCells (Value.int .i64) 0 ys.toArray)))++os):=by
   refine⟨by rw[yB,g];omega,λq H K=>?_⟩;rw[td (by rw[g];exact H),ui,zB λ(e:b=q)=>K (by rw[←e];exact hF)]
  refine hR ys _ D u ⟨by simp[Wj];omega,.inr ⟨b,(putCells (Value.int .i64) 0 ys.toArray cs.toArray).toList,hF,ha,⟨J,?_⟩,hle,?_,?_⟩⟩
  ·rw[td (by rw[g];exact r),ui,zC rfl,z];simp[onCells]
  ·simp[putCells,hcl]
  ·have A:(Wj ys).length=ys.length:=by simp[Wj]
   rw[A];apply zr;intro j;rw[zk];by_cases hj:j<ys.length
   ·rw[zC hj];have B:j<cs.length:=by omega
    simp only[putCells,vW,Array.getElem?_mapIdx,List.getElem?_toArray,cU B,zZ];rw[zC ⟨O,by simpa using hj⟩];rw[Nat.sub_zero,getElem!_pos ys.toArray j (by simpa using hj)];simp[Wj,hj]
   ·rw[zB hj,zW O]
theorem EF {b:Nat}:∀(vs:List Value) {cs:List Value} {o i:Nat} {h:Hp} {K:aP},bY h b cs->o+i+vs.length<=cs.length->(∀h',Ext (· = b) h h'->K h')->nD ⟨b,o,none⟩ h vs i K
 | [],cs,o,i,h,K,_,_,hK=>hK h (Ext.refl _ _)
 | v::vs,cs,o,i,h,K,hb,hl,hK=>by
  have hl':o+i+(vs.length+1)<=cs.length:=hl;unfold nD;refine hb.s1 O λe o1 d=>EF vs d (by rw[ns];omega) λa e2=>hK a (o1.ext.trans e2)
theorem OT (hrow:bR s 1 (Wj xs) U F)(hlen:xs.length<=1000000){R:Sl->Hp->Prop}(hR:∀s' w,Ext F U w->(xs.length<=1->bR s' 1 (Wj xs) w F)->R s' w):WX.c s U R:=by
 refine WX.o ?_;unfold WX.v;have J:s.len=xs.length:=by have:=hrow.1;simp[Wj]at this;omega
 refine cP (λh=>hR s U (Ext.refl _ _) λ_=>hrow) λY=>?_;have p:¬xs.length<=1:=by omega
 have g:∀s' w,Ext F U w->R s' w:=λs' w e=>hR s' w e λh=>(p h).elim;rcases hrow.2 with⟨h0,hc0⟩|⟨b,cs,hF,ha,hb,hle,hcl,ht⟩
 ·omega
 have d:∀j,j<s.len->∃v:Int,cs[j]?=some (.int .i64 v):=λj B=>by
  have:(cs.take (Wj xs).length)[j]?=some (.int .i64 (xs[j]' O)):=by rw[ht];simp[Wj,show j<xs.length by omega]
  rw[zk,zC (by simp[Wj];omega)]at this;exact⟨_,this⟩
 have x:∀{w},Ext (· = b) U w->Ext F U w:=λe=>e.sub λc (S:c=b)=>by rw[S];exact hF
 have rd:∀{u:Hp} {cs':List Value} {j o:Nat} {K:Int->Prop},bY u b cs'->(∃v:Int,cs'[o+j]?=some (.int .i64 v))->(∀v,K v)->gE .i64 (Addr.add ⟨b,o,none⟩ j) u K:=λr ⟨v,E⟩ P=>r.rI E (P v);have A:∀n:Nat,((List.replicate n [Value.int .i64 0]).flatten).length=n:=λn=>by simp
 rw[ha];refine Qc (a:=bN) (λ(z:Int) w=>w=U/\∃k:Nat,z=k/\1<=k/\k<=s.len) (λz _=>s.len-z.toNat) ⟨rfl,1,rfl,O,O⟩ ?_;rintro(z:Int) w ⟨rfl,k,rfl,h1,hk⟩;refine cP (λG=>?_) λX=>g s w (Ext.refl _ _);have W:k<s.len:=by omega
 refine ix O O (rd hb (by rw[zH];exact d _ O) λV=>ar O O (ix O O (rd hb (by rw[zH];exact d _ O) λL=>cO (λ_=>?_) λ_=>cS (m:=k+1) O O ⟨⟨rfl,k+1,rfl,O,O⟩,O⟩)));refine iQ (s:=s) (sz:=1) (lo:=k) (hi:=s.len) (mx:=s.cap) O hle (zD _) ?_;rw[zB (show ¬s.cap=k by omega),ha];simp only[zZ];refine VO (a:=bN) (bb:=bN) (λ(y z:Int) u=>∃(k1 k2:Nat) (cs':List Value),y=k1/\z=k2/\1<=k2/\k2<=s.len-k/\k<=k1/\k1<=k+k2-1/\Ext (· = b) w u/\bY u b cs'/\cs'.length=s.cap/\∀j,j<s.len->∃v:Int,cs'[j]?=some (.int .i64 v)) (λ_ z _=>(s.len-k)-z.toNat)
  ⟨k,1,cs,rfl,rfl,O,O,O,O,Ext.refl _ _,hb,O,d⟩ ?_
 rintro(y:Int) (z:Int) u ⟨k1,k2,cs',rfl,rfl,g1,g2,g3,g4,eu,hbu,hcl',hin⟩;refine cP (λC=>?_) λD=>?_
 ·have N:k2<s.len-k:=by omega
  have e1:∀j:Nat,Addr.add (Addr.add ⟨b,0,none⟩ (k*1)) j=Addr.add ⟨b,k,none⟩ j:=λj=>by rw[add_lit,add_lit,add_lit];congr 1;omega
  refine ix O O ?_;rw[e1];refine rd hbu (hin _ O) λV=>ar O O (ix O O ?_);rw[e1];refine rd hbu (hin _ O) λL=>cO (λ_=>?_) λ_=>cS (m:=k2+1) O O ⟨⟨k1,k2+1,cs',rfl,rfl,O,O,O,O,eu,hbu,hcl',hin⟩,O⟩;refine ix O O ?_;rw[e1];refine rd hbu (hin _ O) λv3=>ix O O (hbu.s1 O λZ o2 H=>cS (m:=k1+1) O O (cS (m:=k2+1) O O ⟨⟨k1+1,k2+1,_,rfl,rfl,O,O,O,O,eu.trans o2.ext,H,by rw[ns];exact hcl',λj B=>?_⟩,O⟩));rw[m7];split
  ·rw[zC O];exact⟨v3,rfl⟩
  ·exact hin j B
 ·refine iQ (s:=s) (sz:=1) (lo:=k1) (hi:=s.len) (mx:=s.cap) O hle (zD _) ?_;rw[zB (show ¬s.cap=k1 by omega),ha];simp only[zZ];refine⟨by simp[dO],?_⟩;simp only[add_lit];refine EF _ hbu ?_ λM Q=>?_
  ·rw[A];omega
  ·refine iQ (s:=s) (sz:=1) (lo:=0) (hi:=k1) (mx:=s.cap) O O (zD _) ?_;exact g _ M (x (eu.trans Q))
end Go.Ar
namespace Go.Ar
open Go Go.Vc Go.Proofs
open Go.Vc (bU dA cR)
variable {size align:Int}{U σ0 v w w':Hp}{F P Q X T:Rg}{L:dI}{H H' H1:Hw}{held:List Pc}{s0 sp:Sp}{t n:Nat}{g:Th}{gb km fm m:Nat}{x y:Gu}{b:B5}
def Ek:Int:=-1234567
def kD (H:Hw)(x:Gu)(thread addr:Int)(whole:Bool):Int:=
 if Qw H thread≠0 then Qw H thread else match bU x.kn addr with
 | none=>if(bU x.fr addr).getD false then 9 else 8
 | some b=>if Ug H b then 5 else if whole&&decide (0<(QW H.sp b).length)then 10 else 0
def Gu.gone (x:Gu)(addr:Int):Gu:=⟨cR x.kn addr,dA x.fr addr true,x.no⟩
def iC (H:Hw)(b:B5):Hw:={H with sp:=j6 H.sp (Qv b) λ_=>Ek}
set_option maxRecDepth 16000 in
theorem VY (p:GP σ0 U L H held s0 P gb km fm x)(gc:Gc σ0)(xi:∀e∈x.kn,e.1=e.2.1/\gL e.2)(thread addr:Int)(whole:Bool){R:aN}
 (h0:∀w,kD H x thread addr whole≠0->aG U w->R (kD H x thread addr whole) w)
 (h1:∀b w ts H1 held' s0' P' e,bU x.kn addr=some b->kD H x thread addr whole=0->Uh (iC H b) thread 1 0 0 b.2.2.1 H1 0 e->gg (iC H b) H1->pa (iC H b) thread b.2.2.1 H1 e->Ext (Mg P gb km fm) U w->GP σ0 w {L with ts:=ts} H1 held' s0' P' gb km fm (x.gone addr)->(∀c,P' c->P c\/U.size<=c)->R 0 w) :
 Ye.c (aW gb) thread addr whole U R:=by
 refine Ye.o ?_;unfold Ye.v;refine Vv p (cB rfl (NG p thread λC e1=>?_));have p1:=p.fr e1;refine cO (λhne=>?_) λab=>?_
 ·have hn:Qw H thread≠0:=by simpa using hne
  have he:kD H x thread addr whole=Qw H thread:=by unfold kD;rw[zC hn]
  have:=h0 C (by rw[he];exact hn) e1;rw[he]at this;exact this
 have hrd:Qw H thread=0:=by simpa using ab
 have a:kD H x thread addr whole=match bU x.kn addr with
  | none=>if(bU x.fr addr).getD false then 9 else 8
  | some b=>if Ug H b then 5 else if whole&&decide (0<(QW H.sp b).length)then 10 else 0:=by
  unfold kD;rw[zB (by rw[hrd];decide)]
 refine bK (p1.b.rM rfl ⟨x.kn,p1.m,?_⟩);refine nw (cs:=[.int .i64 0,.int .i64 0,.int .i64 0,.int .i64 0,.int .i64 0]) λv2 hz2 e2 b2=>b2.s1 aA λv3 o3 b3=>b3.s1 aA λv4 o4 b4=>b4.s1 aA λv5 o5 b5=>b5.s1 aA λv6 o6 b6=>b6.s1 aA λv7 o7 b7=>?_;have eo:Ext (· = C.size) v2 v7:=(((o3.ext.trans o4.ext).trans o5.ext).trans o6.ext).trans o7.ext;have Z:aG C v7:=Ext.fresh e2 eo λi (hi:i=C.size)=>by omega
 have D:=e1.trans Z;have p7:=p.fr D;have d:bY v7 C.size (eW ((bU x.kn addr).getD (0,0,0,0,0))):=b7;cases hk:bU x.kn addr with
 | none=>
  rw[hk]at a;simp only at a;refine KY (λr u=>u=v7/\r=(bU x.fr addr).getD false) (λr u ⟨hu,G⟩=>?_) λJ N=>cC rfl (bK (p7.b.rM rfl ⟨x.fr,p7.f,N _ _ ⟨rfl,rfl⟩⟩));rw[hu];refine cO (λh=>?_) λh=>cC rfl ?_
  ·rw[←G,h]at a;have:=h0 v7 (by rw[a];decide) D;rw[a]at this;exact this
  ·rw[←G,h]at a;have:=h0 v7 (by rw[a];decide) D;rw[a]at this;exact this
 | some b=>
  rw[hk]at a d;simp only at a;have d:bY v7 C.size (eW b):=d;have F:gL b:=(xi _ (Vb hk)).2;refine KY (λr u=>u=v7/\r=false) (λr u ⟨hu,G⟩=>?_) λJ N=>cB rfl (N _ _ ⟨rfl,rfl⟩);rw[hu];refine cB G (cB rfl (d.rI rfl (d.rI rfl (d.rI rfl (d.rI rfl (d.rI rfl (HC p7 b λv9 e9=>?_)))))));have E:=D.trans e9;have p9:=p.fr E;have j:=e9.bT d id;refine cO (λhl=>?_) λhl=>?_
  ·rw[zC hl]at a;have:=h0 v9 (by rw[a];decide) E;rw[a]at this;exact this
  rw[zB (by rw[hl];decide)]at a;refine KY (λr u=>aG U u/\bY u C.size (eW b)/\r=(whole&&decide (0<(QW H.sp b).length))) (λr u ⟨K,A,G⟩=>?_) λJ N=>cO (λM=>?_) λM=>N _ _ ⟨E,j,by rw[M];rfl⟩
  ·refine cO (λh=>?_) λh=>?_
   ·rw[←G,zC h]at a;have:=h0 u (by rw[a];decide) K;rw[a]at this;exact this
   ·rw[←G,zB (by rw[h];decide)]at a;have pu:=p.fr K;have zu:=K.1;have z1:=e1.1;refine A.rI rfl (A.rI rfl (A.rI rfl (A.rI rfl (A.rI rfl (EK pu gc F (-1234567) λu1 X P1 ef V S=>?_)))));have nP:¬P C.size:=λhx=>by have:=(p.pP _ hx).2;omega
    have aa:=ef.bT A nP;have zf:=ef.1;refine bK (V.b.rM rfl ⟨x.kn,V.m,λu2 o2 _ m2=>?_⟩);have o2:=o2 km rfl;have Y:GP σ0 u2 L (iC H b) held X P1 gb km fm ⟨cR x.kn addr,x.fr,x.no⟩:=V.fo (y:=⟨cR x.kn addr,x.fr,x.no⟩) (o2.ext.sub λc g=>.inr (.inl g)) (o2.ext.bT V.b p.n1) m2 (o2.ext.fS V.f λ(h:fm=km)=>p.n3 h.symm);refine bK (Y.b.rM rfl ⟨fm,x.fr,rfl,Y.f,λu3 B m3=>?_⟩);have W:GP σ0 u3 L (iC H b) held X P1 gb km fm (x.gone addr):=Y.fo (y:=x.gone addr) (B.ext.sub λc g=>.inr (.inr g)) (B.ext.bT Y.b p.n2) (B.ext.fS Y.m p.n3) m3;have hkm:=p.m.lt;have hfm:=p.f.lt;have hb3:=B.ext.bT (o2.ext.bT aa (show ¬C.size=km by omega)) (show ¬C.size=fm by omega);obtain⟨H',er,M,o,fe⟩:=LG W.hi thread b.2.2.1 (by have:=F.base;have:=F.m;have:=F.t;have:=F.z;have:=F.s;have:=ZK (n:=b.2.1) O;unfold iG;omega);obtain⟨held',s0',ac⟩:=o.hi;refine bK (W.b.rP rfl (hb3.eZ rfl (O0 Fm W.h W.cf.2.2 M λu4 ts e4 h4=>?_)));have p5:=W.step e4 h4 ac o.kp;have z2:=o2.1;have z3:=B.1;have z4:=e4.1;refine h1 b u4 ts H' held' s0' _ er hk a M o fe ?_ p5 λc g=>?_
    ·have E1:Ext (Mg P gb km fm) U u1:=(aG.to K).trans (ef.sub λc g=>.inl g);have E3:Ext (Mg P gb km fm) U u3:=(E1.trans (o2.ext.sub λc g=>.inr (.inr (.inl g)))).trans (B.ext.sub λc g=>.inr (.inr (.inr g)));exact Ext.dW E3 e4 λc g=>(S c g).imp .inl λh=>by omega
    ·rcases g.1 with g|g
     ·exact(S c g).imp id λh=>by omega
     ·exact .inr O
  ·refine j.rI rfl (j.rI rfl (j.rI rfl (j.rI rfl (j.rI rfl (HF p9 F λs u Q K hs hQ=>N _ _ ⟨E.trans K,K.bT j id,?_⟩)))));have:s.len=(QW H.sp b).length:=by have:=hs.1;simp[Wj]at this;omega
   rw[M,this,qA,l9,decide_eq_true_iff,decide_eq_true_iff];omega
def tj (H:Hw)(x:Gu)(addr:Int):Int:=match bU x.kn addr with
 | none=>8
 | some b=>if Ug H b then 5 else 0
def tY (H:Hw)(x:Gu)(addr:Int):List Int:=match bU x.kn addr with
 | none=>[]
 | some b=>if Ug H b then[]else QW H.sp b
set_option maxRecDepth 16000 in
theorem Hh (p:GP σ0 U L H held s0 P gb km fm x)(xi:∀e∈x.kn,e.1=e.2.1/\gL e.2)(addr:Int){R:Sl->Int->Hp->Prop}
 (hR:∀s w Q,aG U w->bR s 1 (Wj (tY H x addr)) w Q->(∀c,Q c->U.size<=c/\c<w.size)->R s (tj H x addr) w):W7.c (aW gb) addr U R:=by
 refine W7.o ?_;unfold W7.v;refine Vv p (cB rfl (bK (p.b.rM rfl ⟨x.kn,p.m,?_⟩)));refine nw (cs:=[.int .i64 0,.int .i64 0,.int .i64 0,.int .i64 0,.int .i64 0]) λG z e2 D=>D.s1 aA λv3 o3 M=>M.s1 aA λv4 o4 b4=>b4.s1 aA λY o5 E=>E.s1 aA λZ o6 F=>F.s1 aA λv7 o7 W=>?_;have A:Ext (· = U.size) G v7:=(((o3.ext.trans o4.ext).trans o5.ext).trans o6.ext).trans o7.ext;have j:aG U v7:=Ext.fresh e2 A λi (hi:i=U.size)=>by omega
 have V:=p.fr j;have a:bY v7 U.size (eW ((bU x.kn addr).getD (0,0,0,0,0))):=W;have nil:∀w,bR ⟨none,0,0⟩ 1 (Wj []) w (λ_=>False):=λw=>⟨rfl,.inl ⟨rfl,rfl⟩⟩;unfold tj tY at hR;cases hk:bU x.kn addr with
 | none=>
  rw[hk]at hR;exact cC rfl (hR _ v7 _ j (nil _) λc h=>h.elim)
 | some b=>
  rw[hk]at a hR;simp only at hR;have a:bY v7 U.size (eW b):=a;have J:gL b:=(xi _ (Vb hk)).2;refine cB rfl (a.rI rfl (a.rI rfl (a.rI rfl (a.rI rfl (a.rI rfl (HC V b λX y=>?_))))));have g:=j.trans y;have C:=p.fr g;have d:=y.bT a id;refine cO (λr=>?_) λr=>?_
  ·rw[r]at hR;exact hR _ X _ g (nil _) λc h=>h.elim
  ·rw[r]at hR;refine d.rI rfl (d.rI rfl (d.rI rfl (d.rI rfl (d.rI rfl (HF C J λs u Q N S B=>?_)))));have:=g.1;exact hR s u Q (g.trans N) S λc K=>by have:=B c K;omega
theorem Ei {α:Type}{n:Int}{x:α}:∀{l:List (Int×α)},(l.map (·.1)).Nodup->(n,x)∈l->l.Perm ((n,x)::l.filter λy=>!(y.1==n))
 | [],_,h=>by simp at h
 | z::l,hn,h=>by
  simp only[zR,zo]at hn;rcases zV.1 h with h1|h1
  ·subst h1;have:l.filter (λy=>!(y.1==n))=l:=by
    rw[qg];intro y hy;have:y.1≠n:=λe=>hn.1 (zE.2 ⟨y,hy,e⟩);simpa using this
   rw[sr aA,this]
  ·have a:z.1≠n:=λe=>hn.1 (zE.2 ⟨_,h1,e.symm⟩);rw[tG (by simpa using a)];exact((Ei hn.2 h1).cons z).trans (List.Perm.swap _ _ _)
theorem bR.ub {h:Hp}{s y:Sl}{sz bytes e:Nat}{zs xs:List Value}{K:Sl->Hp->Prop}(ho:bR s sz xs h F)(hy:y.len=0)(hb:s.len*bytes<=2^46)(hc:s.len<=2^62)(hK:K s h):App s sz bytes e zs y h K:=by
 refine⟨xs,[],ho.1,by rw[hy];simp,ho.rd,?_,by simp,by rw[hy];exact hb,by rw[hy];exact hc,λd=>?_,λb=>?_⟩
 ·unfold Rd;split
  ·rfl
  ·intro j v hv;simp at hv
 ·rw[hy];cases ha:s.a with
  | some a=>simp only[nD];rw[←ha];exact hK
  | none=>simp only;rw[←ha];exact hK
 ·exfalso;rw[hy]at b;rcases ho.2 with⟨h1,h2⟩|⟨_,_,_,_,_,h3,_⟩<;>omega
theorem vZ {s y:Sl}{xs ys:List Int}{e:Nat}{K:Sl->Hp->Prop}(hr:bR s 1 (Wj xs) U F)(hy:bR y 1 (Wj ys) U Q)(hl:xs.length+ys.length<=10000000)(hK:∀s' w,Ext F U w->bR s' 1 (Wj (xs++ys)) w (λc=>F c\/U.size<=c/\c<w.size)->K s' w):App s 1 8 e [.int .i64 0] y U K:=by
 have a:s.len=xs.length:=by have:=hr.1;simp[Wj]at this;omega
 have u:y.len=ys.length:=by have:=hy.1;simp[Wj]at this;omega
 by_cases h0:y.len=0
 ·have b:ys=[]:=xm.1 O;subst b;refine bR.ub hr h0 O O (hK s U (Ext.refl _ _) ?_);rw[kI];exact aI.mono hr λc _ m=>.inl m
 ·refine hr.app (ys:=Wj ys) rfl (by simp[Wj];omega) hy.rd (λv d=>?_) O O O λs' w r i g=>hK s' w i ?_
  ·unfold Wj at d;obtain⟨z,_,rfl⟩:=zE.1 d;rfl
  ·have:Wj (xs++ys)=Wj xs++Wj ys:=by simp[Wj]
   rw[this];refine aI.mono (aI.cut g) λc p j=>?_;rcases j.1 with a|a
   ·exact .inl a
   ·exact .inr ⟨a,p⟩
def nB (H:Hw)(e:Int×B5):List Int:=if Ug H e.2 then[]else QW H.sp e.2
def oe (H:Hw)(x:Gu):List Int:=x.kn.flatMap (nB H)
set_option maxRecDepth 16000 in
theorem Ep (p:GP σ0 U L H held s0 P gb km fm x)(xi:∀e∈x.kn,e.1=e.2.1/\gL e.2)(hsw:(oe H x).length<=1000000){R:Sl->Hp->Prop}
 (hR:∀s w,aG U w->((oe H x).length<=1->∃Q,bR s 1 (Wj (oe H x)) w Q/\∀c,Q c->U.size<=c/\c<w.size)->R s w):XC.c (aW gb) U R:=by
 refine XC.o ?_;unfold XC.v;refine Vv p (cB rfl (bK (p.b.rM rfl ?_)));refine tT (a:=.s) p.m (λd (out:Sl) u=>aG U u/\U.size<u.size/\(∀e∈d,e∈x.kn)/\(d.map (·.1)).Nodup/\∃(l:List Int) (Q:Rg),bR out 1 (Wj l) u Q/\(∀c,Q c->U.size+1<=c/\c<u.size)/\(l++d.flatMap (nB H)).Perm (oe H x)) (λv hv ev=>⟨ev,O,λe he=>he,p.m.nodup,[],λ_=>False,⟨rfl,.inl ⟨rfl,rfl⟩⟩,λc h=>h.elim,List.Perm.refl _⟩) ?_ ?_
 ·rintro(out:Sl) u ⟨eu,hlt,_,_,l,Q,hr,F,Y⟩;rw[List.flatMap_nil,kI]at Y;have S:l.length<=1000000:=by rw[Y.length_eq];exact hsw
  have zu:=eu.1;refine PN hr S λys u2 W e2 hr2=>OT hr2 (by rw[W.length_eq];exact S) λs' u3 e3 hr3=>?_;have E3:aG U u3:=Ext.fresh eu (e2.trans e3) λc j=>by have:=F c j;omega
  refine hR s' u3 E3 λh1=>⟨Q,?_,λc j=>?_⟩
  ·have h2:ys.length<=1:=by rw[W.length_eq,Y.length_eq];exact h1
   have:ys=oe H x:=by
    have hq:=W.trans Y
    match ys,hq with
    | [],hq=>exact(List.nil_perm.1 hq).symm
    | [a],hq=>exact(List.singleton_perm.1 hq)
    | _::_::_,_=>simp at h2
   rw[this]at hr3 h2;exact hr3 h2
  ·have:=F c j;have:=e2.1;have:=e3.1;omega
 ·rintro d k (b:B5) (out:Sl) u u' J ⟨eu,hlt,K,hnd,l,Q,hr,F,Y⟩ M o1 hs1 hJ;have bi:gL b:=(xi _ (K _ M)).2;have zu:=eu.1;have hpt:=Ei hnd M;have hQn:∀c,Q c->¬c=U.size:=λc j=>by have:=F c j;omega
  have N:aG U u':=Ext.fresh eu o1.ext λc (j:c=U.size)=>by omega
  have Z:=aI.bS hr o1.ext λc _ j=>hQn c j;have hz':=o1.1;refine nw (cs:=[.int .i64 0,.int .i64 0,.int .i64 0,.int .i64 0,.int .i64 0]) λv2 hz2 e2 b2=>b2.s1 aA λv3 o3 b3=>b3.s1 aA λv4 o4 b4=>b4.s1 aA λv5 o5 b5=>b5.s1 aA λv6 o6 b6=>b6.s1 aA λv7 o7 b7=>?_;have eo:Ext (· = u'.size) v2 v7:=(((o3.ext.trans o4.ext).trans o5.ext).trans o6.ext).trans o7.ext;have e7:aG u' v7:=Ext.fresh e2 eo λi (hi:i=u'.size)=>by omega
  have A:bY v7 u'.size (eW b):=b7;have p7:=(p.fr N).fr e7;refine A.rI rfl (A.rI rfl (A.rI rfl (A.rI rfl (A.rI rfl (HC p7 b λv9 e9=>?_)))));have B:=e9.bT A id;have z:=e7.trans e9;have p9:=p7.fr e9;have hkm:=p.m.lt;have E:∀{w:Hp},aG u' w->w[U.size]?=u'[U.size]?/\w[km]?=u'[km]? := λe=>⟨e.2 _ O id,e.2 _ O id⟩;have C:∀e∈d.filter (λy=>!(y.1==k)),e∈x.kn:=λe he=>K e (zI.1 he).1;have G:((d.filter (λy=>!(y.1==k))).map (·.1)).Nodup:=hnd.sublist (List.filter_sublist.map _);refine cO (λhnl=>?_) λhl=>?_
  ·have V:Ug H b=false:=by simpa using hnl
   have X:nB H (k,b)=QW H.sp b:=by unfold nB;rw[V];rfl
   refine B.rI rfl (B.rI rfl (B.rI rfl (B.rI rfl (B.rI rfl (HF p9 bi λs u10 Q2 e10 hs hQ2=>?_)))));have r:=z.trans e10;have hr10:=aI.bO Z r;have g:((l++QW H.sp b)++(d.filter (λy=>!(y.1==k))).flatMap (nB H)).Perm (oe H x):=by
    refine List.Perm.trans ?_ Y;rw[jL];refine List.Perm.append_left l ?_;have:=hpt.flatMap_right (nB H);rw[nJ,X]at this;exact this.symm
   have S:l.length+(QW H.sp b).length<=1000000:=by
    have:=g.length_eq;rw[zO,zO]at this;omega
   refine vZ hr10 hs O λout1 u11 D hr11=>?_;have z10:=r.1;have n11:∀c,c<=U.size->¬Q c:=λc h1 h2=>by have:=F c h2;omega
   refine hJ out1 u11 ?_ ?_ ⟨Ext.fresh (N.trans r) D λc j=>by have:=F c j;omega,by have:=D.1;omega,C,G,l++QW H.sp b,_,hr11,λc j=>?_,g⟩
   ·rw[D.2 _ O (n11 _ (zD _))];exact(E r).1
   ·rw[D.2 _ O (n11 _ O)];exact(E r).2
   ·have z11:=D.1;rcases j with j|j
    ·have:=F c j;omega
    ·omega
  ·have V:Ug H b=true:=by simpa using hl
   have X:nB H (k,b)=[]:=by unfold nB;rw[V];rfl
   have g:(l++(d.filter (λy=>!(y.1==k))).flatMap (nB H)).Perm (oe H x):=by
    refine List.Perm.trans ?_ Y;refine List.Perm.append_left l ?_;have:=hpt.flatMap_right (nB H);rw[nJ,X]at this;exact this.symm
   have z9:=z.1;exact hJ out v9 (E z).1 (E z).2 ⟨N.trans z,O,C,G,l,Q,aI.bO Z z,λc j=>by have:=F c j;omega,g⟩
end Go.Ar
namespace Go.Proofs
open Go.Shelf
def Tryz.hU:Go.Shelf.Ren:=⟨fun|7=>64|10=>91|n=>n,fun|23=>79|26=>3|3=>112|28=>98|0=>0|27=>97|33=>142|4=>4|n=>n,fun|n=>n⟩
theorem Tryz.lp:Go.Proofs.SlLaysZI.n7 Tryz.prog Tryz.hU:={
 mixed:=by kernel_rfl
 f7:=⟨Tryz.f64.name,by decide,Tryz.func64.trans (congrArg some (by kernel_rfl))⟩
 f10:=⟨Tryz.f91.name,by decide,Tryz.func91.trans (congrArg some (by kernel_rfl))⟩
 t0:=Tryz.underlying0
 a0:=Tryz.isAgg0
 z0:=Tryz.sizeOf0
 v0:=Tryz.zeroValue0
 t4:=Tryz.underlying4
 a4:=Tryz.isAgg4
 z4:=Tryz.sizeOf4
 v4:=Tryz.zeroValue4
 t23:=Tryz.underlying79
 a23:=Tryz.isAgg79
 z23:=Tryz.sizeOf79
 v23:=Tryz.zeroValue79
 t26:=Tryz.underlying3
 a26:=Tryz.isAgg3
 z26:=Tryz.sizeOf3
 v26:=Tryz.zeroValue3
 t27:=Tryz.underlying97
 a27:=Tryz.isAgg97
 z27:=Tryz.sizeOf97
 v27:=Tryz.zeroValue97
 t28:=Tryz.underlying98
 a28:=Tryz.isAgg98
 z28:=Tryz.sizeOf98
 v28:=Tryz.zeroValue98
 t33:=Tryz.underlying142
 a33:=Tryz.isAgg142
 z33:=Tryz.sizeOf142
 v33:=Tryz.zeroValue142}
end Go.Proofs
namespace Go.Ar
open Go Go.Vc Go.Proofs Go.RowKit Go.Maps Go.Sort Go.Shelf
open Go.Vc (bU dA cR)
open Go.Bu (lN UD Vd UJ Kw wN)
variable {U w w':Hp}{F P Q X S:Rg}{L:dI}{H H':Hw}{held:List Pc}{s0 sp:Sp}{t n:Nat}{g:Th}{σ0:Hp}
def H8:Nat:=Tryz.hU.f 10
def y8:Nat:=Tryz.hU.t 23
theorem JD (m:Option Nat){R:Fv->Hp->Prop}(hR:R ⟨H8,#[],#[.pointer (some ⟨U.size,0,none⟩)]⟩ (U.push (.cells #[.map m] y8 (0,0)))) :
 ZB.c m U R:=by
 rintro w rfl;refine(callsIn_wide.1 (AnyZI.keys_in Tryz.lp Fence.wide 5 trivial rfl m w)).mono ?_;rintro e a ⟨rfl,rfl⟩;exact⟨⟨rfl,rfl,rfl,qY (by show _<(w.heap.push _).size;simp)⟩,[.func (.func H8) #[] #[.pointer (some ⟨w.heap.size,0,none⟩)]],rfl,⟨H8,#[],#[.pointer (some ⟨w.heap.size,0,none⟩)]⟩,rfl,hR⟩
theorem NL {w:World}{c m:Nat}{B:List (Int×Bk)}(hc:cell w.heap ⟨c,0,none⟩=some (.map (some m)))(hm:dH w.heap m .i64 (.ag 4) B)(hb:∀x∈B,Go.Bu.jO x.1)(hs:B.length<=1000000)(n:Nat)(hn:1<=n) :
 SeqGives Fence.wide n Tryz.prog H8 #[.pointer (some ⟨c,0,none⟩)] encZ (λss=>ss.Perm (B.map (·.1))) B.length w:=by
 obtain⟨D,d,g,a⟩:=Kw (P:=Tryz.prog) Tryz.lp.t26 hm hb hs;have b:c<w.heap.size:=by
  unfold cell at hc;split at hc
  ·rename_i h;exact(zz.1 h).1
  ·cases hc
 have:=AnyZI.keys_gives (ρ:=Tryz.hU) {Tryz.lp with} Fence.wide n trivial rfl hn c m B.length D w b hc d;intro l J W hW hJ hY h0;rw[a]at this;refine(this l J W hW hJ hY h0).mono ?_;rintro e W' ⟨j,ss,p,i⟩;exact⟨j,ss,p.trans g,i⟩
theorem S3 {c m:Nat}{B:List (Int×Bk)}(hc:cell U ⟨c,0,none⟩=some (.map (some m)))(hm:dH U m .i64 (.ag 4) B)(hb:∀x∈B,Go.Bu.jO x.1)(hs:B.length<=1000000){R:Sl->Hp->Prop}
 (hR:∀(s:Sl) (σ':Hp) (ss:List Int),aG U σ'->ss.Perm (B.map (·.1))->ss.Pairwise (· <= ·)->lN U.size σ' s (ss.map (Value.int .i64))->R s σ') :
 QM.c ⟨H8,#[],#[.pointer (some ⟨c,0,none⟩)]⟩ U R:=by
 rintro w rfl;have i:=NL hc hm hb hs 2 O;have p:B.length<=maxLen:=by unfold maxLen;omega
 have z:=AnyZI.sorted_in Tryz.m8 Fence.wide 5 trivial trivial trivial trivial rfl O (wN _) (Tryz.kR.f5.enters rfl) H8 #[.pointer (some ⟨c,0,none⟩)] trivial (Tryz.lp.f10.enters rfl) _ _ p O _ i;refine(callsIn_wide.1 z).mono ?_;rintro e A ⟨v,ss,rfl,u,d,r,g⟩;obtain⟨s,rfl,j⟩:=UD d;refine⟨UJ g,[.slice s.a s.len s.cap],rfl,s,rfl,?_⟩;refine hR s _ (ss.mergeSort λx y=>decide (x<=y)) (Vd g) ((B1 _ _).trans u) ?_ j;have:=List.pairwise_mergeSort (le:=λx y:Int=>decide (x<=y)) (λa b c D C=>by simp at *;omega) (λa b=>by simp;omega) ss;exact this.imp (λh=>by simpa using h)
def jJ (b:Bk):List Value:=[.int .i64 b.1,.int .i64 b.2.1,.int .i64 b.2.2.1,.int .i64 b.2.2.2]
def gH (bs:List Bk):List Value:=bs.flatMap jJ
theorem UM (bs:List Bk):(gH bs).length=bs.length*4:=by
 unfold gH
 induction bs with
 | nil=>rfl
 | cons b bs ih=>rw[nJ,zO,ih];simp[jJ];omega
theorem BC:∀{bs:List Bk} {i:Nat} {b:Bk},bs[i]?=some b->∀{j:Nat} {v:Value},(jJ b)[j]?=some v->(gH bs)[4*i+j]?=some v
 | [],i,b,h,_,_,_=>by simp at h
 | a::bs,0,b,h,j,v,hv=>by
  simp only[xM,Option.some.injEq]at h;subst h;have hj:=(cX.1 hv).1;show(jJ a++gH bs)[4*0+j]?=_;rw[show 4*0+j=j by omega,zh hj];exact hv
 | a::bs,i+1,b,h,j,v,hv=>by
  have d:=BC (bs:=bs) (i:=i) (b:=b) (by simpa using h) hv;show(jJ a++gH bs)[4*(i+1)+j]?=_;rw[zt (by simp[jJ];omega)];have:4*(i+1)+j-(jJ a).length=4*i+j:=by simp[jJ];omega
  rw[this];exact d
structure m9 (live:List (Int×Bk)) (bs:List Bk):Prop where
 len:bs.length=live.length
 mem:∀b,b∈bs↔(b.1,b)∈live
 mM:bs.Pairwise λa b=>a.1<b.1
theorem HI.pq (h:HI H held s0):H.live.length<=1000000:=by
 have p:(H.live.map λe=>e.1.toNat).Nodup:=by
  have u:=k6.1 h.lk;refine k6.2 λi j g m d e=>?_;have b:i<H.live.length:=by simpa using g
  have a:j<H.live.length:=by simpa using m
  refine u i j (by simpa using b) (by simpa using a) d ?_;simp only[rF]at e ⊢;have z:=(h.iW (zp b)).2.1;have w:=(h.iW (zp a)).2.1;omega
 have:=BI 270000 _ p λx s=>by
  obtain⟨e,r,rfl⟩:=zE.1 s;have:=h.iW r;omega
 have y:(H.live.map λe=>e.1.toNat).length=H.live.length:=by simp
 omega
theorem cT.py {B:Nat}{s:Sl}{xs:List Value}(h:lN B U s xs):cT s 1 xs U (λb=>B<=b):=by
 refine⟨by have:=h.1;omega,?_⟩;rcases h.2 with⟨h0,_⟩|⟨b,cs,hb,ha,hk,hc⟩
 ·exact .inl h0
 ·exact .inr ⟨b,0,cs,hb,ha,hk.q,λj a=>by rw[zH];exact hc j a⟩
set_option maxRecDepth 8000 in
theorem Tw (h:HH U F L H)(hi:HI H held s0){R:Sl->Hp->Prop}(hR:∀s σ' bs,aG U σ'->m9 H.live bs->bR s 4 (gH bs) σ' (λb=>U.size<=b)->R s σ'):Zr.c (aW L.p) U R:=by
 refine Zr.o ?_;unfold Zr.v;have D:∀x∈H.live,Go.Bu.jO x.1:=λx g=>by have:=hi.iW g;unfold Go.Bu.jO;omega
 have M:=hi.pq;refine VW h (cB rfl (bK (h.hd.rM rfl (JD _ ?_))));have e1:aG U (U.push (.cells #[.map (some L.lm)] y8 (0,0))):=Ext.push _ _ _;have G:=h.bO e1;refine S3 (by unfold cell;simp) G.kK D M λs y ss e2 J A hs=>?_;have Q:=e1.trans e2;have C:=cT.py hs;have V:ss.Nodup:=J.nodup_iff.2 hi.lk;have u:ss.length=H.live.length:=by rw[J.length_eq];simp
 have hsl:s.len=ss.length:=by have:=C.1;simp at this;omega
 have E:∀x∈ss,∃b,bU H.live x=some b/\b.1=x:=λx g=>by
  obtain⟨e,he,rfl⟩:=zE.1 (J.mem_iff.1 g);exact⟨e.2,ZF hi.lk he,(hi.lv e he).1⟩
 let f:Int->Bk:=λx=>(bU H.live x).getD (0,0,0,0)
 have r:∀x∈ss,(f x).1=x/\bU H.live x=some (f x):=λx g=>by
  obtain⟨b,d,P⟩:=E x g;have:f x=b:=by show(bU H.live x).getD _=b;rw[d];rfl
  rw[this];exact⟨P,d⟩
 have hz1:U.size<y.size:=by
  have G:=e2.1;have h2:(U.push (.cells #[.map (some L.lm)] y8 (0,0))).size=U.size+1:=by simp
  omega
 refine VO (a:=.s) (bb:=bN) (λ(out:Sl) (z:Int) w=>∃i:Nat,z=i/\i<=ss.length/\aG y w/\bR out 4 (gH ((ss.take i).map f)) w (λb=>y.size<=b)) (λ_ z _=>ss.length-z.toNat) ⟨0,rfl,O,Ext.refl _ _,⟨by simp[gH],.inl ⟨rfl,rfl⟩⟩⟩ ?_;rintro(out:Sl) (z:Int) w ⟨i,rfl,hil,ew,hr⟩;have Y:=G.bO (e2.trans ew);refine cP (λB=>?_) λhge=>?_
 ·have g:ss[i]?=some (ss[i]' O):=cU _;have hol:out.len=i:=by have:=hr.1;rw[UM]at this;simp at this;omega
  refine(aH.bO (aH.cut C) ew).mI g (bK (Y.hd.rM rfl ⟨H.live,Y.kK,?_⟩));refine hr.push (F:=λb=>y.size<=b) (vs:=jJ (f (ss[i]' O))) (λb d=>by have:=ew.1;omega) rfl rfl (by simp[jJ,dO]) O O λs' w' Z S K=>?_;have e3:aG y w':=Ext.fresh ew S λb d=>d;refine cS (m:=i+1) O O ⟨⟨i+1,rfl,O,e3,?_⟩,O⟩;have:gH ((ss.take (i+1)).map f)=gH ((ss.take i).map f)++jJ (f (ss[i]' O)):=by
   unfold gH;rw[kN,g,zy,yz];simp only[xS,zR,pX,nJ,List.flatMap_nil,kI]
  rw[this];exact K
 ·have N:i=ss.length:=by omega
  subst N;rw[l0]at hr;refine hR out w (ss.map f) (Q.trans ew) ⟨by simp[u],λb=>?_,?_⟩ (aI.mono hr λb _ d=>by
   show U.size<=b;have d:y.size<=b:=d;omega)
  ·constructor
   ·intro d;obtain⟨x,g,rfl⟩:=zE.1 d;obtain⟨q1,q2⟩:=r x g;rw[q1];exact Vb q2
   ·intro d;have g:b.1∈ss:=J.mem_iff.2 (zE.2 ⟨_,d,rfl⟩);refine zE.2 ⟨b.1,g,?_⟩;have:=(r _ g).2;rw[ZF hi.lk d]at this;exact(Option.some.inj this).symm
  ·rw[pf];have B:ss.Pairwise (· < ·):=(A.and V).imp λ⟨G,h2⟩=>by
    have:_≠_:=h2;omega
   refine k6.2 λi j hi X W=>?_;rw[(r _ (zp hi)).1,(r _ (zp X)).1];exact k6.1 B i j hi X W
theorem wx {s:Sl}{bs:List Bk}(hs:cT s 4 (gH bs) U F){i:Nat}{b:Bk}(hb:bs[i]?=some b){K:Addr->Prop}(hK:∀bb o,(∀(j:Nat) v,(jJ b)[j]?=some v->cell U ⟨bb,o+j,none⟩=some v)->K ⟨bb,o,none⟩):Ix s.a s.len (i:Int) 4 K:=by
 have g:=(cX.1 hb).1;have u:s.len=bs.length:=by have:=hs.1;rw[UM]at this;omega
 obtain⟨bb,o,e,x⟩:=hs.cell (BC hb (j:=0) rfl);rw[e];refine ix O O ?_;rw[add_lit,dD];refine hK bb _ λj v p=>?_;obtain⟨r,w,d,m⟩:=hs.cell (BC hb p);rw[e]at d;cases d;rw[←m];congr 2;omega
end Go.Ar
namespace Go.Proofs
open Go.Shelf
def Tryz.hO:Go.Shelf.Ren:=⟨fun|7=>51|10=>85|n=>n,fun|23=>71|26=>3|3=>95|28=>98|0=>0|27=>97|33=>142|4=>4|n=>n,fun|n=>n⟩
theorem Tryz.kW:Go.Proofs.SlLaysZI.n7 Tryz.prog Tryz.hO:={
 mixed:=by kernel_rfl
 f7:=⟨Tryz.f51.name,by decide,Tryz.func51.trans (congrArg some (by kernel_rfl))⟩
 f10:=⟨Tryz.f85.name,by decide,Tryz.func85.trans (congrArg some (by kernel_rfl))⟩
 t0:=Tryz.underlying0
 a0:=Tryz.isAgg0
 z0:=Tryz.sizeOf0
 v0:=Tryz.zeroValue0
 t4:=Tryz.underlying4
 a4:=Tryz.isAgg4
 z4:=Tryz.sizeOf4
 v4:=Tryz.zeroValue4
 t23:=Tryz.underlying71
 a23:=Tryz.isAgg71
 z23:=Tryz.sizeOf71
 v23:=Tryz.zeroValue71
 t26:=Tryz.underlying3
 a26:=Tryz.isAgg3
 z26:=Tryz.sizeOf3
 v26:=Tryz.zeroValue3
 t27:=Tryz.underlying97
 a27:=Tryz.isAgg97
 z27:=Tryz.sizeOf97
 v27:=Tryz.zeroValue97
 t28:=Tryz.underlying98
 a28:=Tryz.isAgg98
 z28:=Tryz.sizeOf98
 v28:=Tryz.zeroValue98
 t33:=Tryz.underlying142
 a33:=Tryz.isAgg142
 z33:=Tryz.sizeOf142
 v33:=Tryz.zeroValue142}
end Go.Proofs
namespace Go.Proofs
open Go.Vc
set_option maxRecDepth 100000
def YR.h:Hn:=.q .o1 (.q .o6 .l)
def YR.v (a:Int)(b:Hp)(c:aN):Prop:=bL (a+8) λd=>bL (d-1) λe=>Nz 8<|bL (e.tdiv 8) λf=>bL (f*8) λg=>c g b
theorem YR.o {a b c}(d:YR.v a b c):YR.c a b c:=Wa Tryz.func15 (x:=YR.h) (R0 d)
def WS.h:Hn:=.q .o1 (.q (.q .o5 .aK) (.q (.q .o1 (.k (.loop [(5,.I)] (.q (.q .o4 (.c .l .l)) (.q (.k (.q (.oq 9) .aK)) .o3))))) .aM))
def WS.v (a b:Sl)(c:Hp)(d:aO):Prop:=If (((a.len:Nat):Int) != ((b.len:Nat):Int)) (d false c) (XW [bN] (λe=>e 0 c) λf (g:Int) h=>If (g<((a.len:Nat):Int)) (Ix a.a a.len g 1 λi=>bM i h λj=>Ix b.a b.len g 1 λk=>bM k h λl=>If (j != l) (d false h) (bL (g+1) λm=>f m h)) (d true h))
theorem WS.o {a b c d}(e:WS.v a b c d):WS.c a b c d:=Wa Tryz.func30 (x:=WS.h) (R0 e)
def XN.h:Hn:=.q .o1 (.q (.q .o5 .aK) (.q (.q .o1 (.k (.loop [(5,.I)] (.q (.q .o4 (.c .l .l)) (.q (.k (.q (.oq 9) .aK)) .o3))))) .aM))
def XN.v (a b:Sl)(c:Hp)(d:aO):Prop:=If (((a.len:Nat):Int) != ((b.len:Nat):Int)) (d false c) (XW [bN] (λe=>e 0 c) λf (g:Int) h=>If (g<((a.len:Nat):Int)) (Ix a.a a.len g 4 λi=>aQ i 0 h λj=>aQ i 1 h λk=>aQ i 2 h λl=>aQ i 3 h λm=>Ix b.a b.len g 4 λn=>aQ n 0 h λo=>aQ n 1 h λp=>aQ n 2 h λq=>aQ n 3 h λr=>If (!((j==o)&&((k==p)&&((l==q)&&((m==r)&&true))))) (d false h) (bL (g+1) λs=>f s h)) (d true h))
theorem XN.o {a b c d}(e:XN.v a b c d):XN.c a b c d:=Wa Tryz.func31 (x:=XN.h) (R0 e)
def Xv.h:Hn:=.q .o2 (.q .o1 (.q (.q .o3 (.k (.loop [(3,.one .s),(4,.I)] (.q (.q .o4 (.c .l .l)) (.q (.k .o5) .o3))))) .aL))
def Xv.v (a b c d:Int)(e:Hp)(f:Sl->Hp->Prop):Prop:=aV #[.I a,.I b,.I c,.I d] 52 e λg h=>aQ g 2 h λi=>XW [.s,bN] (λj=>j ⟨none,0,0⟩ i h) λk (l:Sl) (m:Int) n=>aQ g 0 n λo=>If (m<o) (aV #[.I m] 3 n λp q=>App l 1 8 3 [.I 0] ⟨some p,1,1⟩ q λr s=>bL (m+8) λt=>k r t s) (f l n)
theorem Xv.o {a b c d e f}(g:Xv.v a b c d e f):Xv.c a b c d e f:=Wa Tryz.func59 (x:=Xv.h) (R0 g)
def XO.h:Hn:=.q .o2 (.q .o1 (.q (.q (.cQ (.held true [] (.tk [0,1,2,3] (.all [(4,.take 5 (.take 6 (.done)))])))) (.k (.loop [(3,.one .s),(4,.I)] (.q (.q .o8 (.c .l .l)) (.q (.k .o5) .o3))))) .aL))
def XO.v (a b c d:Int)(e:Hp)(f:Sl->Hp->Prop):Prop:=aV #[.I a,.I b,.I c,.I d] 52 e λg h=>dY h λi=>aS i g 0 λj=>aS i g 1 λk=>YR.c k h λl m=>And (i m) <| bL (j+l) λn=>XW [.s,bN] (λo=>o ⟨none,0,0⟩ n m) λp (q:Sl) (r:Int) s=>bL (r+8) λt=>aQ g 2 s λu=>aQ g 3 s λv=>bL (u+v) λw=>If (t<=w) (aV #[.I r] 3 s λx y=>App q 1 8 3 [.I 0] ⟨some x,1,1⟩ y λz aa=>bL (r+8) λab=>p z ab aa) (f q s)
theorem XO.o {a b c d e f}(g:XO.v a b c d e f):XO.c a b c d e f:=Wa Tryz.func60 (x:=XO.h) (R0 g)
end Go.Proofs
namespace Go.Ar
open Go Go.Vc Go.Proofs Go.RowKit Go.Maps Go.Sort Go.Shelf
open Go.Vc (bU dA cR)
open Go.Bu (lN UD Vd UJ Kw wN)
variable {size align:Int}{U σ0 v w w':Hp}{F P Q X T:Rg}{L:dI}{H H' H1:Hw}{held:List Pc}{s0 sp:Sp}{t n:Nat}{g:Th}{gb km fm m:Nat}{x y:Gu}{b:B5}
theorem BR {k:IntKind}{c:CK}{l:List (Int×c.T)}{r:Nat}{a a':CK}{x0:a.T}{y0:a'.T}{A:a.T->a'.T->Hp->Prop}{body:Int->c.T->a.T->a'.T->Hp->(a.T->a'.T->Hp->Prop)->Prop}(hm:dH U r k c l)(I:List (Int×c.T)->a.T->a'.T->Hp->Prop)
 (h0:∀v,v.size=U.size+1->aG U v->I l x0 y0 v)
 (hend:∀z y v,I [] z y v->A z y v)
 (hstep:∀todo n x z y v v' (J:a.T->a'.T->Hp->Prop),I todo z y v->(n,x)∈todo->QB v v' U.size->U.size<v.size->(∀z' y' w,w[U.size]?=v'[U.size]?->w[r]?=v'[r]?->I (todo.filter λy=>!(y.1==n)) z' y' w->J z' y' w)->body n x z y v' J) :
 nY k c (some r) U λit v3=>XW [a,a'] (λI=>I x0 y0 v3) λJ1 z y v4=>nZ k c it v4 (A z y v4) λ_ _ v5=>nX k c it v5 λkey1 val1=>body key1 val1 z y v5 J1:=by
 refine⟨l,hm,λv H P L=>?_⟩;have Q:aG U v:=⟨O,λb p _=>P b p⟩;refine VO (a:=a) (bb:=a') (λz y w=>∃todo d,It w U.size k c (some r) l todo d/\I todo z y w/\U.size<w.size) (λ_ _ w=>vP w U.size r) ⟨l,none,L,h0 v H Q,O⟩ ?_;rintro z y w ⟨todo,d,g,D,j⟩;refine⟨rfl,some r,l,todo,d,g,λM=>?_,λn x E F K i=>?_⟩
 ·subst M;exact hend z y w D
 ·refine⟨rfl,some r,l,_,n,x,i,hstep todo n x z y w F _ D E K j λz' y' u B s m=>?_⟩;have e:=i.bS B s;refine⟨⟨_,_,e,m,?_⟩,?_⟩
  ·obtain⟨R,G,C,N,_⟩:=e;exact(zz.1 N).1
  ·rw[e.num,g.num];exact Bg.2 ⟨(n,x),E,by simp⟩
def lS (ofV:B5->Int)(addr:Int)(b:B5):Prop:=b.1<=addr/\addr<b.1+ofV b
instance (ofV:B5->Int) (addr:Int) (b:B5):Decidable (lS ofV addr b):=by unfold lS;infer_instance
set_option maxRecDepth 16000 in
theorem EM (p:GP σ0 U L H held s0 P gb km fm x)(xi:∀e∈x.kn,e.1=e.2.1/\gL e.2)(addr:Int){ofv:Fv}{ofV:B5->Int}(hov:∀b,gL b->0<=ofV b/\ofV b<=100000)
 (hof:∀(b:B5) (u:Hp) (K:aN),gL b->(∀u',aG u u'->K (ofV b) u')->V5 Tryz.prog ofv [.agg #[.int .i64 b.1,.int .i64 b.2.1,.int .i64 b.2.2.1,.int .i64 b.2.2.2.1,.int .i64 b.2.2.2.2]] [.one bN] u K)
 {R:Int->Int->Int->Int->Int->Bool->Hp->Prop}
 (h0:∀(b:B5) w,aG U w->(∀e∈x.kn,¬lS ofV addr e.2)->R b.1 b.2.1 b.2.2.1 b.2.2.2.1 b.2.2.2.2 false w)
 (h1:∀e w,aG U w->e∈x.kn->lS ofV addr e.2->R e.2.1 e.2.2.1 e.2.2.2.1 e.2.2.2.2.1 e.2.2.2.2.2 true w) :
 Za.c (aW gb) addr ofv U R:=by
 refine Za.o ?_;unfold Za.v;refine nw (cs:=eW (0,0,0,0,0)) λv hz e b6=>nw (cs:=eW (0,0,0,0,0)) λv1 hz1 e1 b8=>?_;have e01:=e.trans e1;have p1:=p.fr e01;refine bK (p1.b.rM rfl ?_);refine BR (a:=.b) (a':=.b) p1.m (λj (d E:Bool) u=>aG U u/\v1.size<u.size/\bY u U.size (eW (0,0,0,0,0))/\(∀e∈j,e∈x.kn)/\∃iK:B5,bY u v.size (eW iK)/\(d=false->∀e∈x.kn,e∈j\/¬lS ofV addr e.2)/\(d=true->∃e∈x.kn,e.2=iK/\lS ofV addr e.2))
  (λu hu Z=>⟨e01.trans Z,O,Z.bT (e1.bT b6 id) id,λe F=>F,(0,0,0,0,0),Z.bT b8 id,λ_ e F=>.inl F,λh=>by cases h⟩) ?_ ?_
 ·rintro(d:Bool) (E:Bool) u ⟨Z,hlt,ad,_,iK,C,hf0,hf1⟩;refine C.rI rfl (C.rI rfl (C.rI rfl (C.rI rfl (C.rI rfl ?_))));refine ad.s1 (by simp[eW]) λv3 o3 b3=>b3.s1 (by simp[eW]) λv4 o4 b4=>b4.s1 (by simp[eW]) λv5 o5 b5=>b5.s1 (by simp[eW]) λv6 o6 b6=>b6.s1 (by simp[eW]) λv7 o7 b7=>?_;have eo:Ext (· = U.size) u v7:=(((o3.ext.trans o4.ext).trans o5.ext).trans o6.ext).trans o7.ext;have e7:aG U v7:=Ext.fresh Z eo λi (hi:i=U.size)=>by omega
  have A:bY v7 U.size (eW iK):=b7;refine A.rI rfl (A.rI rfl (A.rI rfl (A.rI rfl (A.rI rfl ?_))));cases d with
  | false=>exact h0 iK v7 e7 λe F=>(hf0 rfl e F).resolve_left aA
  | true=>
   obtain⟨e,F,rfl,M⟩:=hf1 rfl;exact h1 e v7 e7 F M
 ·rintro j k (b:B5) (d:Bool) (E:Bool) u u' J ⟨Z,hlt,ad,D,iK,C,hf0,hf1⟩ N o1 hs1 hJ;have bi:gL b:=(xi _ (D _ N)).2;have ov:=hov b bi;have zu:=Z.1;have hz':=o1.1;have hbm:=bi.m;have hbz:=bi.z;have hbb:=bi.base;have hbt:=bi.t;have hbs:=bi.s;have hww:=ZK (n:=b.2.1) O;have ab:aG U u':=Ext.fresh Z o1.ext λc (hc:c=v1.size)=>by omega
  have X:=o1.ext.bT ad (show ¬U.size=v1.size by omega);have aa:=o1.ext.bT C (show ¬v.size=v1.size by omega);have hkm:=p.m.lt;refine nw (cs:=eW (0,0,0,0,0)) λv2 hz2 e2 b2=>b2.s1 (by simp[eW]) λv3 o3 b3=>b3.s1 (by simp[eW]) λv4 o4 b4=>b4.s1 (by simp[eW]) λv5 o5 b5=>b5.s1 (by simp[eW]) λv6 o6 b6=>b6.s1 (by simp[eW]) λv7 o7 b7=>?_;have eo:Ext (· = u'.size) v2 v7:=(((o3.ext.trans o4.ext).trans o5.ext).trans o6.ext).trans o7.ext;have e7:aG u' v7:=Ext.fresh e2 eo λi (hi:i=u'.size)=>by omega
  have A:bY v7 u'.size (eW b):=b7;have W:∀{w:Hp},aG u' w->w[v1.size]?=u'[v1.size]?/\w[km]?=u'[km]? := λe=>⟨e.2 _ O id,e.2 _ O id⟩;have Q:∀e∈j.filter (λy=>!(y.1==k)),e∈x.kn:=λe F=>D e (zI.1 F).1;have hkb:∀e∈x.kn,e∈j->e∈j.filter (λy=>!(y.1==k))\/e=(k,b):=λe F ht=>by
   by_cases hk:e.1=k
   ·right;have h1:=ZF p.m.nodup (show(e.1,e.2)∈x.kn from F);have h2:=ZF p.m.nodup (D _ N);rw[hk,h2]at h1;exact Prod.ext hk (Option.some.inj h1).symm
   ·exact .inl (zI.2 ⟨ht,by simpa using hk⟩)
  have same:∀w,aG u' w->(d=false->¬lS ofV addr b)->J d E w:=λw ew hnb=>by
   have zw:=ew.1;refine hJ d E w (W ew).1 (W ew).2 ⟨ab.trans ew,O,ew.bT X id,Q,iK,ew.bT aa id,λB e F=>?_,hf1⟩;rcases hf0 B e F with h|h
   ·rcases hkb e F h with h|rfl
    ·exact .inl h
    ·exact .inr (hnb B)
   ·exact .inr h
  refine yX (λr u2=>aG u' u2/\bY u2 u'.size (eW b)/\r = !decide (lS ofV addr b)) (λr u2 ⟨ac,G,hr⟩=>?_) λJ1 hJ1=>?_
  ·by_cases M:lS ofV addr b
   ·refine cB (by rw[hr,zJ M];rfl) ?_;have pu:=(p.fr ab).fr ac;refine G.rI rfl (G.rI rfl (G.rI rfl (G.rI rfl (G.rI rfl (HC pu b λV e17=>?_)))));have E17:=ac.trans e17;have g:=e17.bT G id;have h617:=E17.bT X id;have Y:=E17.bT aa id;refine KY (λr u3=>u3=V/\(d=false->r=true)) (λr u3 ⟨hu3,hr3⟩=>?_) λJ2 ae=>?_
    ·rw[hu3];refine KY (λr1 u4=>u4=V/\(d=false->r1=true)) (λr1 u4 ⟨hu4,hr4⟩=>?_) λJ3 hJ3=>?_
     ·rw[hu4];refine cO (λh1=>?_) λh1=>same V E17 λB=>by rw[hr4 B]at h1;cases h1
      refine g.rI rfl (g.rI rfl (g.rI rfl (g.rI rfl (g.rI rfl ?_))));refine Y.s1 (by simp[eW]) λw3 q3 c3=>c3.s1 (by simp[eW]) λw4 q4 c4=>c4.s1 (by simp[eW]) λw5 q5 c5=>c5.s1 (by simp[eW]) λw6 q6 c6=>c6.s1 (by simp[eW]) λw7 q7 c7=>?_;have qo:Ext (· = v.size) V w7:=(((q3.ext.trans q4.ext).trans q5.ext).trans q6.ext).trans q7.ext;have c7':bY w7 v.size (eW b):=c7;have z17:=E17.1;have zq:=qo.1;refine hJ true _ w7 ?_ ?_ ⟨Ext.fresh (ab.trans E17) qo λc (hc:c=v.size)=>O,O,qo.bT h617 (show ¬U.size=v.size by omega),Q,b,c7',λh=>(by cases h),λ_=>⟨(k,b),D _ N,rfl,M⟩⟩
      ·rw[qo.2 _ O (show ¬v1.size=v.size by omega)];exact(W E17).1
      ·rw[qo.2 _ O (show ¬km=v.size by omega)];exact(W E17).2
     ·refine cO (λh=>hJ3 _ _ ⟨rfl,λ_=>rfl⟩) λh=>?_;have S:¬d=false:=λB=>by rw[hr3 B]at h;cases h
      exact bW.intro (cO (λ_=>g.rI rfl (Y.rI rfl (hJ3 _ _ ⟨rfl,λB=>(S B).elim⟩))) λ_=>hJ3 _ _ ⟨rfl,λB=>(S B).elim⟩)
    ·refine cO (λh=>ae _ _ ⟨rfl,λ_=>rfl⟩) λh=>?_;have S:¬d=false:=λB=>by rw[B]at h;cases h
     exact bW.intro (cO (λ_=>ae _ _ ⟨rfl,λB=>(S B).elim⟩) λ_=>ae _ _ ⟨rfl,λB=>(S B).elim⟩)
   ·exact cC (by rw[hr,zN M];rfl) (same u2 ac λ_=>M)
  ·have hS:∀m,aG v7 m->bY m u'.size (eW b):=λm e=>e.bT A id;refine⟨λm=>aG v7 m,Ext.refl _ _,pd (c:=bN) (y:=b.1) hS rfl (cP (λh=>hJ1 _ _ ⟨e7,A,?_⟩) λh=>?_)⟩
   ·rw[zN];rfl;rintro⟨h1,_⟩;exact absurd h O
   ·refine pd (c:=bN) (y:=b.1) hS rfl (gp (c:=bN) (y:=b.1) hS rfl (gp (c:=bN) (y:=b.2.1) hS rfl (gp (c:=bN) (y:=b.2.2.1) hS rfl (gp (c:=bN) (y:=b.2.2.2.1) hS rfl (gp (c:=bN) (y:=b.2.2.2.2) hS rfl (hof b v7 _ bi λu3 e3=>⟨e3,ar O O (hJ1 _ _ ⟨e7.trans e3,e3.bT A id,?_⟩)⟩))))));rw[l9,mq,decide_eq_true_iff,decide_eq_false_iff_not];unfold lS;omega
theorem LS (b:B5)(u:Hp)(K:aN)(bi:gL b)(hK:∀u',aG u u'->K (YI b.2.1) u'):V5 Tryz.prog ⟨44,#[],#[]⟩ [.agg #[.int .i64 b.1,.int .i64 b.2.1,.int .i64 b.2.2.1,.int .i64 b.2.2.2.1,.int .i64 b.2.2.2.2]] [.one bN] u K:=by
 have:=bi.s;refine pK (all := #[.agg #[.int .i64 b.1,.int .i64 b.2.1,.int .i64 b.2.2.1,.int .i64 b.2.2.2.1,.int .i64 b.2.2.2.2]]) (by kernel_rfl) aA ?_;exact Hl b O O hK
theorem L5 (b:B5)(u:Hp)(K:aN)(bi:gL b)(hK:∀u',aG u u'->K b.2.1 u'):V5 Tryz.prog ⟨57,#[],#[]⟩ [.agg #[.int .i64 b.1,.int .i64 b.2.1,.int .i64 b.2.2.1,.int .i64 b.2.2.2.1,.int .i64 b.2.2.2.2]] [.one bN] u K:=by
 refine pK (all := #[.agg #[.int .i64 b.1,.int .i64 b.2.1,.int .i64 b.2.2.1,.int .i64 b.2.2.2.1,.int .i64 b.2.2.2.2]]) (by kernel_rfl) aA ?_;refine YD.o ?_;unfold YD.v;exact nw (cs:=eW b) λv d e a=>a.eZ rfl (hK v e)
def uU (addr:Int)(b:B5):Prop:=lS (λb=>YI b.2.1) addr b
def IY (addr:Int)(b:B5):Prop:=lS (λb=>b.2.1) addr b
def rz (H:Hw)(x:Gu)(addr e:Int):Prop:=(e=7/\((∀k∈x.kn,¬uU addr k.2)\/addr%8≠0))\/(∃k∈x.kn,uU addr k.2/\addr%8=0/\e=if Ug H k.2 then 5 else 0)
set_option maxRecDepth 16000 in
theorem Ip (p:GP σ0 U L H held s0 P gb km fm x)(xi:∀e∈x.kn,e.1=e.2.1/\gL e.2)(addr:Int){R:aN}(hR:∀e w,aG U w->rz H x addr e->R e w):X8.c (aW gb) addr U R:=by
 refine X8.o ?_;unfold X8.v;have S:∀b,gL b->0<=YI b.2.1/\YI b.2.1<=100000:=λb A=>by have:=A.s;have:=ZK (n:=b.2.1) O;omega
 have box:∀{w:Hp} {B G Q N M:Int} {K:Addr->Hp->Prop},(∀d,aG w d->bY d w.size (eW (B,G,Q,N,M))->K ⟨w.size,0,none⟩ d) →
  Nw (.cells #[.int .i64 0,.int .i64 0,.int .i64 0,.int .i64 0,.int .i64 0] 95 (0,0)) w λm v2=>dU (m.add 0) (.int .i64 B) v2 λv3=>dU (m.add 1) (.int .i64 G) v3 λW=>dU (m.add 2) (.int .i64 Q) W λV=>dU (m.add 3) (.int .i64 N) V λv6=>dU (m.add 4) (.int .i64 M) v6 λv7=>K m v7:=λ{w B G Q N M K} hK=>
  nw (cs:=eW (0,0,0,0,0)) λv2 hz2 e2 b2=>b2.s1 (by simp[eW]) λv3 o3 b3=>b3.s1 (by simp[eW]) λW o4 b4=>b4.s1 (by simp[eW]) λV o5 b5=>b5.s1 (by simp[eW]) λv6 o6 b6=>b6.s1 (by simp[eW]) λv7 o7 g=>
   hK v7 (Ext.fresh e2 ((((o3.ext.trans o4.ext).trans o5.ext).trans o6.ext).trans o7.ext) λi (hi:i=w.size)=>O) g
 refine Vv p (cB rfl (EM p xi addr S LS (λb w C hn=>?_) λk w C F j=>?_))
 ·refine box λd D g=>bW.intro (cC rfl (cC rfl (hR 7 d (C.trans D) (.inl ⟨rfl,.inl hn⟩))))
 ·refine box λd D g=>?_;have A:gL k.2:=(xi _ F).2;have h0:0<=addr:=by have:=j.1;have:=A.z;have:=A.base;omega
  have a:=C.trans D;refine KY (λr u=>u=d/\r=decide (addr%8≠0)) (λr u ⟨hu,X⟩=>?_) λJ hJ=>cB rfl (nz aB (hJ _ _ ⟨rfl,?_⟩))
  ·rw[hu];by_cases h8:addr%8≠0
   ·exact cC (by rw[X];exact zJ h8) (hR 7 d a (.inl ⟨rfl,.inr h8⟩))
   ·refine cB (by rw[X];exact zN h8) (g.rI rfl (g.rI rfl (g.rI rfl (g.rI rfl (g.rI rfl (HC (p.fr a) k.2 λY Z=>?_))))));have y:addr%8=0:=by omega
    refine cO (λE=>hR 5 Y (a.trans Z) (.inr ⟨k,F,j,y,by rw[E];rfl⟩)) λE=>hR 0 Y (a.trans Z) (.inr ⟨k,F,j,y,by rw[E];rfl⟩)
  ·rw[Qq h0];by_cases h8:addr%8=0
   ·rw[h8];decide
   ·rw[zJ h8];simpa using h8
theorem Ra (p:GP σ0 U L H held s0 P gb km fm x)(xi:∀e∈x.kn,e.1=e.2.1/\gL e.2)(addr:Int)(ha:addr<=9223372036854775807){R:Int->Int->Hp->Prop}(h0:∀e w,e≠0->aG U w->rz H x addr e->R 0 e w)(h1:∀w,aG U w->rz H x addr 0->R (QJ H.sp addr) (dT H.sp addr) w):YL.c (aW gb) addr U R:=by
 refine YL.o ?_;unfold YL.v;refine Ip p xi addr λe w a i=>cO (λg=>h0 e w (by simpa using g) a i) λd=>?_;have m:e=0:=by simpa using d
 subst m;have j:=p.fr a;exact bK (j.b.rP rfl (Ck j.h addr ha λr e2=>h1 r (a.trans e2) i))
theorem Bb (p:GP σ0 U L H held s0 P gb km fm x)(gc:Gc σ0)(xi:∀e∈x.kn,e.1=e.2.1/\gL e.2)(addr u:Int)(ha:addr<=9223372036854775807){R:aN}(h0:∀e w,e≠0->aG U w->rz H x addr e->R e w)
 (h1:∀w s0' P',rz H x addr 0->Ext P U w->GP σ0 w L {H with sp:=W5 H.sp addr u} held s0' P' gb km fm x->(∀c,P' c->P c\/U.size<=c)->R (dT H.sp addr) w):Xo.c (aW gb) addr u U R:=by
 refine Xo.o ?_;unfold Xo.v;refine Ip p xi addr λe w a m=>cO (λg=>h0 e w (by simpa using g) a m) λd=>?_;have s:e=0:=by simpa using d
 subst s;have j:=p.fr a;have A:=a.1;exact bK (j.b.rP rfl (j.write gc addr u ha λz s2 P2 e2 r i=>h1 z s2 P2 m ((aG.to a).trans e2) r λc y=>(i c y).imp id λh=>O))
set_option maxRecDepth 16000 in
theorem MK (p:GP σ0 U L H held s0 P gb km fm x)(xi:∀e∈x.kn,e.1=e.2.1/\gL e.2)(addr:Int){R:Int->Int->Int->Int->Int->Hp->Prop}(h0:∀w,aG U w->(∀k∈x.kn,¬IY addr k.2)->R 0 0 0 0 8 w)(h1:∀k w,aG U w->k∈x.kn->IY addr k.2->R k.2.1 k.2.2.1 k.2.2.2.1 k.2.2.2.2.1 0 w):YN.c (aW gb) addr U R:=by
 refine YN.o ?_;unfold YN.v;have W:∀b,gL b->0<=b.2.1/\b.2.1<=100000:=λb bi=>by have:=bi.s;omega
 refine nw (cs:=[.int .i64 0,.int .i64 0,.int .i64 0,.int .i64 0]) λv hz e b4=>?_;have j:∀{w:Hp} {a b c d:Int} {K:Int->Int->Int->Int->Hp->Prop},aG U w->bY w U.size [.int .i64 0,.int .i64 0,.int .i64 0,.int .i64 0]->(∀g,aG U g->K a b c d g) →
  dU (Addr.add ⟨U.size,0,none⟩ 0) (.int .i64 a) w λv7=>dU (Addr.add ⟨U.size,0,none⟩ 1) (.int .i64 b) v7 λv8=>dU (Addr.add ⟨U.size,0,none⟩ 2) (.int .i64 c) v8 λv9=>dU (Addr.add ⟨U.size,0,none⟩ 3) (.int .i64 d) v9 λv10=>
  gE .i64 (Addr.add ⟨U.size,0,none⟩ 0) v10 λr0=>gE .i64 (Addr.add ⟨U.size,0,none⟩ 1) v10 λr1=>gE .i64 (Addr.add ⟨U.size,0,none⟩ 2) v10 λr2=>gE .i64 (Addr.add ⟨U.size,0,none⟩ 3) v10 λr3=>K r0 r1 r2 r3 v10:=λm M B=>
  M.s1 aA λv1 o1 b1=>b1.s1 aA λQ o2 F=>F.s1 aA λv3 o3 E=>E.s1 aA λA o4 b4=>b4.rI rfl (b4.rI rfl (b4.rI rfl (b4.rI rfl (B A ((((m.only o1 (.inr (zD _))).only o2 (.inr (zD _))).only o3 (.inr (zD _))).only o4 (.inr (zD _)))))))
 have box:∀{w:Hp} {D J V S N:Int} {K:Addr->Hp->Prop},(∀y,aG w y->bY y w.size (eW (D,J,V,S,N))->K ⟨w.size,0,none⟩ y) →
  Nw (.cells #[.int .i64 0,.int .i64 0,.int .i64 0,.int .i64 0,.int .i64 0] 95 (0,0)) w λu Q=>dU (u.add 0) (.int .i64 D) Q λv3=>dU (u.add 1) (.int .i64 J) v3 λA=>dU (u.add 2) (.int .i64 V) A λX=>dU (u.add 3) (.int .i64 S) X λZ=>dU (u.add 4) (.int .i64 N) Z λv7=>K u v7:=λ{w D J V S N K} B=>
  nw (cs:=eW (0,0,0,0,0)) λQ aa e2 F=>F.s1 (by simp[eW]) λv3 o3 E=>E.s1 (by simp[eW]) λA o4 b4=>b4.s1 (by simp[eW]) λX o5 b5=>b5.s1 (by simp[eW]) λZ o6 b6=>b6.s1 (by simp[eW]) λv7 o7 r=>
   B v7 (Ext.fresh e2 ((((o3.ext.trans o4.ext).trans o5.ext).trans o6.ext).trans o7.ext) λi (hi:i=w.size)=>O) r
 have Y:=p.fr e;refine Vv Y (cB rfl (EM Y xi addr W L5 (λb w m hn=>?_) λk w m hk G=>?_))
 ·refine box λy z r=>cC rfl (j (K:=λa b c d g=>R a b c d 8 g) ((e.trans m).trans z) ((m.trans z).bT b4 id) λg C=>h0 g C hn)
 ·refine box λy z r=>cB rfl (r.eZ rfl (r.eZ rfl (r.eZ rfl (r.eZ rfl ?_))));exact j (K:=λa b c d g=>R a b c d 0 g) ((e.trans m).trans z) ((m.trans z).bT b4 id) λg C=>h1 k g C hk G
theorem Pz (p:GP σ0 U L H held s0 P gb km fm x){R:Option Addr->Hp->Prop}(hR:R (some ⟨L.p,0,none⟩) U):YP.c (aW gb) U R:=by
 refine YP.o ?_;unfold YP.v;exact Vv p (cB rfl (bK (p.b.rP rfl hR)))
end Go.Ar
namespace Go.Ar
open Go Go.Vc Go.Proofs
open Go.Vc (bU dA cR)
variable {size align:Int}{U σ0 v w w':Hp}{F P Q X T:Rg}{L:dI}{H H' H1:Hw}{held:List Pc}{s0 sp:Sp}{t n:Nat}{g:Th}{gb km fm m:Nat}{x y:Gu}{b:B5}
theorem iE.yF {n m:Nat}{H H1 H2:Hw}{t:Nat}{p:Ph}{a1 e1 a2 e2:Int}(h:iE n H t p H1 a1 e1)(h':iE m H t p H2 a2 e2):H1=H2/\a1=a2/\e1=e2:=by
 induction h generalizing m with
 | done h1 h2=>
  cases h' with
  | done=>exact⟨rfl,rfl,rfl⟩
  | next _ h3 _=>rw[h2]at h3;cases h3
 | next h1 h2 _ ih=>
  cases h' with
  | done _ h3=>rw[h2]at h3;cases h3
  | next _ h3 h4=>rw[h2]at h3;cases h3;exact ih h4
theorem Uh.yF {thread kind size align addr a1 e1 a2 e2:Int}{H1 H2:Hw}(h:Uh H thread kind size align addr H1 a1 e1)(h':Uh H thread kind size align addr H2 a2 e2):H1=H2/\a1=a2/\e1=e2:=by
 rcases h with⟨h1,_,rfl,rfl⟩|⟨t,p,n,h1,h2⟩
 ·rcases h' with⟨g1,_,rfl,rfl⟩|⟨_,_,_,g1,_⟩
  ·rw[h1]at g1;cases g1;exact⟨rfl,rfl,rfl⟩
  ·rw[h1]at g1;cases g1
 ·rcases h' with⟨g1,_⟩|⟨_,_,_,g1,g2⟩
  ·rw[h1]at g1;cases g1
  ·rw[h1]at g1;cases g1;exact h2.yF g2
theorem Jb:sU w0 64:=by
 have h:=Im (xs:=qv 8) (p:=64) (a:=1) (t:=1) (b:=1024) (r:=2) (Gg 8 aB aB) aB;rw[vK]at h;exact h
theorem V2 {a:Option Addr}{thread addr:Int}{R:aN}(h:Ye.c a thread addr true U R):Wy.c a thread addr U R:=Wy.o (by unfold Wy.v;exact h)
theorem Hy (H:Hw)(thread:Int):Uz H thread=if 0<=thread/\thread<(H.bQ.length:Int)then fH H thread.toNat else none:=by
 unfold Uz fH;split
 ·cases H.bQ[thread.toNat]?<;>rfl
 ·rfl
theorem PI (o:gg H H')(thread:Int):Qw H' thread=Qw H thread:=by
 unfold Qw;rw[Hy,Hy,o.kp.2.1,o.kp.2.2.1,o.ph]
theorem Hb {a b:Sl}{xs ys:List Int}{G:Rg}(ha:cT a 1 (Wj xs) U F)(hb:cT b 1 (Wj ys) U G)(hl:xs.length<=1000000000){R:aO}(hR:R (decide (xs=ys)) U):WS.c a b U R:=by
 refine WS.o ?_;unfold WS.v;have B:a.len=xs.length:=by have:=ha.1;simp[Wj]at this;omega
 have A:b.len=ys.length:=by have:=hb.1;simp[Wj]at this;omega
 rw[B,A,qU];refine cO (λr=>?_) λr=>?_
 ·have d:xs.length≠ys.length:=by simpa using r
  rw[zN λe=>d (by rw[e])]at hR;exact hR
 have K:xs.length=ys.length:=by simpa using r
 refine Qc (a:=bN) (λ(t:Int) v=>∃i:Nat,t=(i:Int)/\i<=xs.length/\v=U/\xs.take i=ys.take i) (λt _=>xs.length-t.toNat) ⟨0,rfl,O,rfl,rfl⟩ ?_;rintro t v ⟨i,rfl,J,rfl,g⟩;refine cP (λE=>?_) λH=>?_
 ·have w:i<xs.length:=by omega
  have j:xs[i]?=some xs[i]:=cU w;have p:ys[i]?=some (ys[i]' O):=cU _;generalize xs[i]=x at j;generalize ys[i]' O=y at p;rw[←B,←A];refine ha.mI j (hb.mI p (cO (λd=>?_) λs=>?_))
  ·have C:x≠y:=by simpa using d
   rw[zN]at hR
   ·exact hR
   ·intro e;rw[e,p]at j;exact C (Option.some.inj j).symm
  ·have u:x=y:=by simpa using s
   refine cS (m:=i+1) O O ⟨⟨i+1,rfl,O,rfl,?_⟩,O⟩;rw[kN,kN,g,j,p,u]
 ·have D:i=xs.length:=by omega
  have:xs=ys:=by
   have z:=g;rw[mW O,mW O]at z;exact z
  rw[zJ this]at hR;exact hR
def gm:Hw×Int×Int:=(yQ w0 0 0 56 16 0).getD (w0,0,99)
theorem Cr:gm.2=(4096,0):=by decide +kernel
theorem xy:Uh w0 0 0 56 16 0 gm.1 4096 0:=by
 have a:=Cr;unfold gm at *;cases hw:yQ w0 0 0 56 16 0 with
 | none=>rw[hw]at a;exact absurd (congrArg Prod.snd a) aB
 | some r=>
  rw[hw]at a;have:=Lc hw;have e1:r.2=(4096,0):=a;rw[e1]at this;exact this
def gB:B5:=(4112,24,4096,64,1)
theorem Be:Kx gm.1 4096=some 64:=by decide +kernel
def gX:Gu:=om.fM gB
def qu:Hw:={gm.1 with sp:=l8 gm.1.sp gB}
def pF:Hw:={qu with sp:=W5 qu.sp 4136 5}
def qT:Hw:={pF with sp:=W5 pF.sp 4136 (-4137)}
def vf:Hw:={qT with sp:=W5 qT.sp 4128 7}
theorem PC:dT qu.sp 4136=0:=by decide +kernel
theorem xl:tj pF gX 4112=0/\tY pF gX 4112=[4136]/\kD pF gX 0 4112 true=10/\dT pF.sp 4136=0:=by decide +kernel
theorem Cu:dT qT.sp 4128=0/\Ug qT gB=false:=by decide +kernel
theorem FJ:kD vf gX 0 4112 true=0/\Qw (iC vf gB) 0=0:=by decide +kernel
theorem Bl:gX.kn=[(4112,gB)]:=rfl
theorem oy:∀e∈gX.kn,e.1=e.2.1/\gL e.2:=λe a=>by
 rw[Bl,zL]at a;subst a;exact⟨rfl,⟨by decide,by decide⟩,⟨by decide,by decide⟩,⟨by decide,by decide,by decide⟩,⟨by decide,by decide⟩,by decide⟩
theorem Sd:kD H (gX.gone 4112) 0 4112 true=if Qw H 0≠0 then Qw H 0 else 9:=by
 unfold kD;split
 ·rfl
 ·rfl
attribute [local irreducible] w0 gm qu pF qT vf
theorem SA:qu = {gm.1 with sp:=l8 gm.1.sp gB}:=by unfold qu;rfl
theorem RE:pF = {qu with sp:=W5 qu.sp 4136 5}:=by unfold pF;rfl
theorem Pp:qT = {pF with sp:=W5 pF.sp 4136 (-4137)}:=by unfold qT;rfl
theorem Da:vf = {qT with sp:=W5 qT.sp 4128 7}:=by unfold vf;rfl
set_option maxRecDepth 8000 in
theorem Eo (gl:Gl U)(gc:Gc U){R:aO}(hR:∀σ',aG U σ'->R true σ'):Wz.c U R:=by
 refine Wz.o ?_;unfold Wz.v;refine Pn gl gc.gd λv L N e hsN hNv h0=>cB rfl ?_;have G:=Jb;have hc0:w0.cf.aF=64:=by have:=G.pg;omega
 refine Dm e h0.cut G.hi G.cf O (λb C=>⟨by have:N<=b:=C.1;omega,C.2⟩) (CN gl gc.gd) λw gb km fm e1 _ p=>?_;refine bW.intro (cB rfl (cB rfl ?_));refine FZ p gc ⟨by decide,by decide⟩ 0 24 8 (λw D=>absurd D aB) (λe w ts H' g r P' _ d i=>?_) λb w2 ts H1 y s1 P1 E i o e2 J hP2=>?_
 ·have:=i.yF xy;exact absurd this.2.2 d
 obtain⟨rfl,x,_⟩:=i.yF xy;have C:b=gB:=by
  have hu:=E.u;rw[x,Be]at hu;have h1:=E.a;rw[x]at h1;have h2:b.2.2.2.1=64:=(Option.some.inj hu).symm;exact Prod.ext (h1.trans aB) (Prod.ext E.s (Prod.ext x (Prod.ext h2 E.n)))
 subst C;have J:GP U w2 {L with ts:=ts} qu y s1 P1 gb km fm gX:=by rw[SA];exact J
 refine bW.intro (cB aB (bW.intro (cB aB ?_)));refine J.write gc 4136 5 aB λw3 s3 P3 e3 S _=>?_;rw[PC];rw[←RE]at S;refine cB aB ?_;refine Hh S oy 4112 λsl w4 Q e4 hs hQ=>?_;rw[xl.1];rw[xl.2.1]at hs;have p4:=S.fr e4;refine bW.intro (cB aB (nw (cs:=[.int .i64 4136]) λw5 hz5 e5 b5=>?_));have p5:=p4.fr e5;have W:=aI.bO hs e5;have K:cT ⟨some ⟨w4.size,0,none⟩,1,1⟩ 1 (Wj [4136]) w5 (· = w4.size):=b5.fX rfl rfl λj hj=>by rw[zH];rfl
 refine Hb (bR.fX W) K aA ?_;refine bW.intro ?_;refine cB (show(!decide (([4136]:List Int)=[4136]))=false by decide) ?_;refine V2 ?_;refine VY p5 gc oy 0 4112 true (λw6 d e6=>?_) λb w6 ts H1 g r P' e _ h=>by rw[xl.2.2.1]at h;exact absurd h aB
 rw[xl.2.2.1];have p6:=p5.fr e6;refine bW.intro (cB aB ?_);refine p6.write gc 4136 (-4137) aB λw7 s7 P7 e7 p7 _=>?_;rw[xl.2.2.2];rw[←Pp]at p7;refine cB aB ?_;have Z:uU 4128 gB:=⟨by decide,by decide⟩;have m:¬uU 4136 gB:=λh=>absurd h.2 aB;have wd:∀{H:Hw} {a e:Int},Ug H gB=false->rz H gX a e->(uU a gB/\a%8=0->e=0)/\(¬uU a gB->e=7):=λhl i=>by
  rcases i with⟨rfl,h⟩|⟨k,D,hi,h8,rfl⟩
  ·refine⟨λh'=>?_,λ_=>rfl⟩;rcases h with h|h
   ·exact absurd h'.1 (h (4112,gB) (by rw[Bl];exact zL.2 rfl))
   ·exact absurd h'.2 h
  ·rw[Bl,zL]at D;subst D;simp only[hl];exact⟨λ_=>rfl,λh=>absurd hi h⟩
 refine Bb p7 gc oy 4128 7 aB (λe w d _ i=>absurd ((wd Cu.2 i).1 ⟨Z,by decide⟩) d) λw8 s8 P8 _ e8 V _=>?_;rw[Cu.1];rw[←Da]at V;have z:Ug vf gB=false:=by rw[Da];exact Cu.2
 refine Bb V gc oy 4136 7 aB (λe w9 d e9 i=>?_) λw s P i=>absurd ((wd z i).2 m) aB;have B:=(wd z i).2 m;subst B;have p9:=V.fr e9;refine bW.intro (cC rfl (bW.intro (cC rfl ?_)));refine V2 ?_;refine VY p9 gc oy 0 4112 true (λw d=>absurd FJ.1 d) λb w10 ts H1 g r P' e Y _ i o fe e10 A hP10=>?_;have X:b=gB:=by
  have:bU gX.kn 4112=some gB:=rfl;rw[this]at Y;exact(Option.some.inj Y).symm
 subst X;refine bW.intro (cC rfl ?_);have xi:∀e∈(gX.gone 4112).kn,e.1=e.2.1/\gL e.2:=λe B=>by
  rw[show(gX.gone 4112).kn=[]from rfl]at B;simp at B
 have h9:kD H1 (gX.gone 4112) 0 4112 true=9:=by
  rw[Sd,PI o,FJ.2];rfl
 refine V2 ?_;refine VY A gc xi 0 4112 true (λM d F=>?_) λb w ts H1 g r P' e Y h=>by rw[h9]at h;exact absurd h aB
 rw[h9];exact hR M (A.fr F).e
end Go.Ar
namespace Go.Ar
open Go.Vc (bU dA cR)
variable {size align thread addr:Int}{H H' H1:Hw}{held held1:List Pc}{s0 s1 sp:Sp}{x y:Gu}{b:B5}
theorem FY {α:Type}{l:List (Int×α)}{n:Int}(h:bU l n=none)(v:α):dA l n v=l++[(n,v)]:=by
 unfold dA;rw[zB];intro hx;obtain⟨y,a,e⟩:=kf.1 hx;unfold bU at h;rw[rY,nQ]at h;exact h y a e
theorem CJ {α:Type}{l:List (Int×α)}{n:Int}:bU l n=none↔∀e∈l,e.1≠n:=by
 unfold bU;rw[rY,nQ];simp only[zT]
theorem Uy {α β:Type}{f:α->β}:∀{l:List α},(l.map f).Nodup->∀{a b:α},a∈l->b∈l->f a=f b->a=b
 | [],_,_,_,h,_,_=>by simp at h
 | z::l,hn,a,b,ha,hb,e=>by
  simp only[zR,zo]at hn;rcases zV.1 ha with h1|h1
  ·rcases zV.1 hb with h2|h2
   ·rw[h1,h2]
   ·exact absurd (zE.2 ⟨b,h2,by rw[←e,h1]⟩) hn.1
  ·rcases zV.1 hb with h2|h2
   ·exact absurd (zE.2 ⟨a,h1,by rw[e,h2]⟩) hn.1
   ·exact Uy hn.2 h1 h2 e
theorem BS (h:HI H held s0){e:Int×Bk}(he:e∈H.live){w:Nat}(h1:e.1<=((8*w:Nat):Int))(h2:((8*w:Nat):Int)<e.1+e.2.2.1):gf H.sp.st (w/32)≠0:=by
 obtain⟨_,p,a,_,_,b,d,_⟩:=h.lv e he;have:=h.mapped a (x:=8*w) O O
 rwa [show 8*w/256=w/32 by omega]at this
structure dN (H:Hw) (x:Gu):Prop where
 live:H.live.map (λe=>(e.1,e.2.2.1))=x.kn.map (λe=>(e.2.2.2.1,e.2.2.2.2.1))
 can:∀e∈x.kn,∀z∈XV e.2,QJ H.sp z=gF z
 ph:∀j,fH H j=none
 i:∀e∈x.kn,e.1=e.2.1/\gL e.2
 nd:(x.kn.map (·.1)).Nodup
theorem IM (hi:HI H held s0){e e':Int×Bk}(he:e∈H.live)(he':e'∈H.live){z:Int}(h1:e.1<=z)(h2:z<e.1+e.2.2.1)(h3:e'.1<=z)(h4:z<e'.1+e'.2.2.1):e=e':=by
 obtain⟨_,p,d,_,_,b,i,_⟩:=hi.lv e he;obtain⟨_,q,g,_,_,a,j,_⟩:=hi.lv e' he';have:p=q:=hi.apart d g (x:=z.toNat) O O O O;subst this;exact Uy hi.lk he he' (by rw[←b,←a])
theorem dN.of (g:dN H x){e:Int×B5}(he:e∈x.kn):∃l∈H.live,l.1=e.2.2.2.1/\l.2.2.1=e.2.2.2.2.1:=by
 have:(e.2.2.2.1,e.2.2.2.2.1)∈H.live.map (λe=>(e.1,e.2.2.1)):=by rw[g.live];exact zE.2 ⟨e,he,rfl⟩
 obtain⟨l,a,h⟩:=zE.1 this;simp only[Prod.mk.injEq]at h;exact⟨l,a,h.1,h.2⟩
theorem dN.se (g:dN H x)(hi:HI H held s0):(x.kn.map λe=>e.2.2.2.1).Nodup:=by
 have a:=congrArg (List.map Prod.fst) g.live;rw[lx,lx]at a;have b:(x.kn.map λe=>e.2.2.2.1)=H.live.map (·.1):=a.symm;rw[b];exact hi.lk
theorem dN.apart (g:dN H x)(hi:HI H held s0){e e':Int×B5}(he:e∈x.kn)(he':e'∈x.kn){z:Int}(h1:e.2.2.2.1<=z)(h2:z<e.2.2.2.1+e.2.2.2.2.1)(h3:e'.2.2.2.1<=z)(h4:z<e'.2.2.2.1+e'.2.2.2.2.1):e=e':=by
 obtain⟨l,d,i,m⟩:=g.of he;obtain⟨j,a,b,p⟩:=g.of he';have:=IM hi d a (z:=z) O O O O;subst this;exact Uy (g.se hi) he he' (by rw[←i,←b])
theorem dN.usable (g:dN H x)(hi:HI H held s0){e:Int×B5}(he:e∈x.kn):Kx H e.2.2.2.1=some e.2.2.2.2.1:=by
 obtain⟨l,a,d,b⟩:=g.of he;unfold Kx;rw[←d,ZF hi.lk (show(l.1,l.2)∈H.live from a)];exact congrArg some b
theorem dN.lost (g:dN H x)(hi:HI H held s0){e:Int×B5}(he:e∈x.kn):Ug H e.2=false:=by
 unfold Ug;rw[g.usable hi he];simp
theorem dN.map (g:dN H x)(hi:HI H held s0){e:Int×B5}(he:e∈x.kn){w:Nat}(h1:e.2.2.2.1<=((8*w:Nat):Int))(h2:((8*w:Nat):Int)<e.2.2.2.1+e.2.2.2.2.1):gf H.sp.st (w/32)≠0:=by
 obtain⟨l,a,d,b⟩:=g.of he;exact BS hi a O O
theorem gL.word (bi:gL b){z:Int}(h:z∈XV b\/z∈Qv b):(∃w:Nat,z=((8*w:Nat):Int))/\b.2.2.1<=z/\z<b.2.2.1+b.2.2.2.1:=by
 have e:=bi.base;have a:=bi.z;have d:=bi.t;rcases h with h|h
 ·have:=UG bi h;exact⟨⟨z.toNat/8,O⟩,O,O⟩
 ·have:=GY bi h;exact⟨⟨z.toNat/8,O⟩,O,O⟩
theorem gL.nw (bi:gL b){z:Int}(h:z∈XV b):z∉Qv b:=λa=>by
 have e:=UG bi h;have d:=GY bi a;omega
theorem dN.acc (g:dN H x)(hi:HI H held s0){e:Int×B5}(he:e∈x.kn){z:Int}(h:z∈XV e.2\/z∈Qv e.2):dT H.sp z=0:=by
 obtain⟨⟨w,rfl⟩,b,a⟩:=(g.i e he).2.word h;exact UL.2 (g.map hi he b a)
theorem dN.broken (g:dN H x)(hi:HI H held s0){e:Int×B5}(he:e∈x.kn):QW H.sp e.2=[]:=by
 unfold QW;rw[BO];intro z hz;unfold jl;rw[g.acc hi he (.inl hz),g.can e he z hz];simp
theorem dN.cH (g:dN H x)(hi:HI H held s0):oe H x=[]:=by
 unfold oe;rw[List.flatMap_eq_nil_iff];intro e he;unfold nB;rw[g.lost hi he,g.broken hi he];rfl
theorem dN.jm (bi:gL b){z:Int}(h1:b.1<=z)(h2:z<b.1+YI b.2.1)(h8:z%8=0):z∈Qv b:=by
 have:=bi.z;have a:=ZK (n:=b.2.1) (by have:=bi.s;omega);refine zE.2 ⟨((z-b.1)/8).toNat,zd.2 ?_,O⟩;unfold ud;omega
theorem Ap (hi:HI H held s0)(ks:KS H.sp sp){l:Int×Bk}(hl:l∈H.live){w:Nat}(h1:l.1<=((8*w:Nat):Int))(h2:((8*w:Nat):Int)<l.1+l.2.2.1):QJ sp ((8*w:Nat):Int)=QJ H.sp ((8*w:Nat):Int)/\gf sp.st (w/32)≠0:=by
 have a:=BS hi hl h1 h2;have:=ks.k _ a;rw[GJ,GJ,zC a,zC this.1,this.2 w rfl];exact⟨rfl,this.1⟩
def Kept (H:Hw)(x:Gu)(H':Hw)(x':Gu)(e:Int×B5):Prop:=e∈x'.kn/\∀z∈Qv e.2,QJ H'.sp z=QJ H.sp z
theorem R8 (bi:gL b):∀z∈XV b,0<=z/\z%8=0:=λz a=>by
 have:=UG bi a;have:=bi.base;omega
theorem FI (bi:gL b):∀z∈Qv b,0<=z/\z%8=0:=λz a=>by
 have:=GY bi a;have:=bi.base;have:=bi.z;omega
theorem dN.fM (g:dN H x)(hi:HI H held s0)(gr:yu H x size align b H1)(o:gg H H1)(hi1:HI H1 held1 s1) :
 dN {H1 with sp:=l8 H1.sp b} (x.fM b)/\(x.fM b).kn=x.kn++[(b.1,b)]/\(∀e∈x.kn,Kept H x {H1 with sp:=l8 H1.sp b} (x.fM b) e)/\(∀z∈Qv b,QJ (l8 H1.sp b) z=0)/\dT (l8 H1.sp b) b.1=0:=by
 have bi:=gr.bi;obtain⟨C,cl,r,_⟩:bU H.live b.2.2.1=none/\∃cl,H1.live=dA H.live b.2.2.1 (b.2.2.1,(oC H.tb (zA align+YI size+16) (zA align)).1,cl,XU H1.bX b.2.2.1)/\True:=by
  rcases gr.me with⟨h,_⟩|⟨_,F,_,cl,E,_⟩
  ·exact absurd rfl h
  ·exact⟨F,cl,E,trivial⟩
 have W:=gr.u;unfold Kx at W;rw[r,CF]at W;have N:(oC H.tb (zA align+YI size+16) (zA align)).1=b.2.2.2.1:=Option.some.inj W;rw[N]at r;rw[FY C]at r;have M:∃l∈H1.live,l.1=b.2.2.1/\l.2.2.1=b.2.2.2.1:=⟨(b.2.2.1,(b.2.2.1,b.2.2.2.1,cl,XU H1.bX b.2.2.1)),by rw[r];simp,rfl,rfl⟩;obtain⟨ln,S,V,ln2⟩:=M;have L:∀l∈H.live,l∈H1.live:=λl K=>by rw[r];exact kr _ K
 have G:∀e∈x.kn,∀z,e.2.2.2.1<=z->z<e.2.2.2.1+e.2.2.2.2.1->b.2.2.1<=z->z<b.2.2.1+b.2.2.2.1->False:=λe d z F E h3 h4=>by
  obtain⟨l,K,a1,a2⟩:=g.of d;have:=IM hi1 (L l K) S (z:=z) O O O O;subst this;have:=CJ.1 C l K;exact this V
 have hb1:=bi.base;have hb2:=bi.z;have hb3:=bi.t;have hww:=ZK (n:=b.2.1) (by have:=bi.s;omega);have R:bU x.kn b.1=none:=CJ.2 λe d h=>by
  have y:=(g.i e d);have q0:=y.1;have q4:=y.2.s;have hbs:=bi.s;have q1:=y.2.base;have q2:=y.2.z;have q3:=y.2.t;have qw:=ZK (n:=e.2.2.1) (by have:=y.2.s;omega);exact G e d b.1 O O O O
 have A:(x.fM b).kn=x.kn++[(b.1,b)]:=FY R b;have p:∀z,(z∈XV b\/z∈Qv b)->∃w:Nat,z=((8*w:Nat):Int)/\gf H1.sp.st (w/32)≠0:=λz m=>by
  obtain⟨⟨w,rfl⟩,F,E⟩:=bi.word m;exact⟨w,rfl,BS hi1 S O O⟩
 have J:=R8 bi;have D:=FI bi;obtain⟨_,Y,_⟩:=xK gF (XV b) H1.sp J;have P:∀w:Nat,((8*w:Nat):Int)∉XV b->((8*w:Nat):Int)∉Qv b->QJ (l8 H1.sp b) ((8*w:Nat):Int)=QJ H1.sp ((8*w:Nat):Int):=λw F E=>by
  unfold l8;rw[KR D,zB λh=>E h.1,KR J,zB λh=>F h.1]
 have B:∀e∈x.kn,∀z,(z∈XV e.2\/z∈Qv e.2)->QJ (l8 H1.sp b) z=QJ H.sp z:=λe d z m=>by
  obtain⟨l,K,a1,a2⟩:=g.of d;obtain⟨⟨w,rfl⟩,F,E⟩:=(g.i e d).2.word m;have:=Ap (H:=H) hi o.ks K (w:=w) O O;rw[P w (λm=>by have:=bi.word (.inl m);exact G e d _ F E this.2.1 this.2.2) (λm=>by have:=bi.word (.inr m);exact G e d _ F E this.2.1 this.2.2)];exact this.1
 refine⟨⟨?_,λe d z m=>?_,λj=>(o.ph j).trans (g.ph j),λe d=>?_,?_⟩,A,λe d=>⟨by rw[A];exact kr _ d,λz m=>B e d z (.inr m)⟩,λz m=>?_,?_⟩
 ·show H1.live.map _=_;rw[r,A,zy,zy,g.live];rfl
 ·show QJ (l8 H1.sp b) z=gF z;rw[A]at d;rcases zK.1 d with d|d
  ·rw[B e d z (.inl m)];exact g.can e d z m
  ·rw[zL]at d;subst d;obtain⟨w,rfl,Q⟩:=p z (.inl m);unfold l8;rw[KR D,zB λh=>bi.nw m h.1,KR J,zC ⟨m,Q⟩]
 ·rw[A]at d;rcases zK.1 d with d|d
  ·exact g.i e d
  ·rw[zL]at d;subst d;exact⟨rfl,bi⟩
 ·rw[A,zy,nC];refine⟨g.nd,by simp,λa ha c X=>?_⟩;simp only[zR,pX,zL]at X;subst X;obtain⟨e,d,rfl⟩:=zE.1 ha;exact CJ.1 R e d
 ·obtain⟨w,rfl,Q⟩:=p z (.inr m);unfold l8;rw[KR D,zC ⟨m,λh=>Q ((Y _).1 h)⟩]
 ·have U:b.1∈Qv b:=dN.jm bi (wZ _) (by have:=bi.s;omega) bi.z.2.2;obtain⟨w,hw,Q⟩:=p b.1 (.inr U);obtain⟨_,Z,_⟩:=xK (λ_=>0) (Qv b) (j6 H1.sp (XV b) gF) D;rw[hw];unfold l8;exact UL.2 λh=>Q ((Y _).1 ((Z _).1 h))
theorem dN.same (g:dN H x)(hi:HI H held s0)(o:gg H H')(hl:H'.live=H.live):dN H' x/\∀e∈x.kn,Kept H x H' x e:=by
 have a:∀e∈x.kn,∀z,(z∈XV e.2\/z∈Qv e.2)->QJ H'.sp z=QJ H.sp z:=λe b z d=>by
  obtain⟨l,hl,p,m⟩:=g.of b;obtain⟨⟨w,rfl⟩,s,r⟩:=(g.i e b).2.word d;exact(Ap (H:=H) hi o.ks hl (w:=w) O O).1
 exact⟨⟨by rw[hl];exact g.live,λe b z d=>by rw[a e b z (.inl d)];exact g.can e b z d,λj=>(o.ph j).trans (g.ph j),g.i,g.nd⟩,λe b=>⟨b,λz d=>a e b z (.inr d)⟩⟩
theorem dN.write (g:dN H x)(hi:HI H held s0){k:Int×B5}(hk:k∈x.kn){z v:Int}(hz:z∈Qv k.2):dN {H with sp:=W5 H.sp z v} x/\(∀e∈x.kn,e≠k->Kept H x {H with sp:=W5 H.sp z v} x e)/\(∀u∈Qv k.2,QJ (W5 H.sp z v) u=if u=z then v else QJ H.sp u):=by
 obtain⟨⟨b,rfl⟩,A,y⟩:=(g.i k hk).2.word (.inr hz);have r:=g.map hi hk A y;have m:∀w:Nat,QJ (W5 H.sp ((8*b:Nat):Int) v) ((8*w:Nat):Int)=if w=b/\gf H.sp.st (w/32)≠0 then v else QJ H.sp ((8*w:Nat):Int):=λw=>by
  have:=KR (f:=λ_=>v) (l:=[((8*b:Nat):Int)]) (sp:=H.sp) (λz hz=>by rw[zL]at hz;subst hz;omega) w;have e:j6 H.sp [((8*b:Nat):Int)] (λ_=>v)=W5 H.sp ((8*b:Nat):Int) v:=rfl;rw[e]at this;rw[this];by_cases hw:w=b
  ·subst hw;by_cases hm:gf H.sp.st (w/32)≠0
   ·rw[zC ⟨zL.2 rfl,hm⟩,zC ⟨rfl,hm⟩]
   ·rw[zB λh=>hm h.2,zB λh=>hm h.2]
  ·rw[zB λh=>hw (by have:=zL.1 h.1;omega),zB λh=>hw h.1]
 have j:∀e∈x.kn,∀u,(u∈XV e.2\/u∈Qv e.2)->(e=k->u∈XV e.2)->QJ (W5 H.sp ((8*b:Nat):Int) v) u=QJ H.sp u:=λe d u a p=>by
  obtain⟨⟨w,rfl⟩,C,B⟩:=(g.i e d).2.word a;rw[m,zB];rintro⟨rfl,_⟩;have:=g.apart hi d hk C B A y;subst this;exact(g.i e d).2.nw (p rfl) hz
 refine⟨⟨g.live,λe d u a=>?_,g.ph,g.i,g.nd⟩,λe d s=>⟨d,λu a=>j e d u (.inr a) λh=>absurd h s⟩,λu a=>?_⟩
 ·show QJ (W5 H.sp ((8*b:Nat):Int) v) u=gF u;rw[j e d u (.inl a) λ_=>a];exact g.can e d u a
 ·obtain⟨⟨w,rfl⟩,C,B⟩:=(g.i k hk).2.word (.inr a);rw[m];by_cases hw:w=b
  ·subst hw;rw[zC ⟨rfl,r⟩,zC rfl]
  ·rw[zB λh=>hw h.1,zB λh=>hw O]
theorem dN.free (g:dN H x)(hi:HI H held s0){b:B5}(hk:bU x.kn addr=some b){e:Int}(hw:Uh (iC H b) thread 1 0 0 b.2.2.1 H1 0 e)(o:gg (iC H b) H1)(fe:pa (iC H b) thread b.2.2.1 H1 e)(hrd:Qw H thread=0)(hcf:H.cf.threads=H.bQ.length) :
 dN H1 (x.gone addr)/\∀k∈x.kn,k.1≠addr->Kept H x H1 (x.gone addr) k:=by
 have a:(addr,b)∈x.kn:=Vb hk;have B:=g.i _ a;have R:addr=b.1:=B.1;have K:gL b:=B.2;obtain⟨l,S,L,U⟩:=g.of a;simp only at L U;have E:(iC H b).live=H.live:=rfl;have G:bU H.live b.2.2.1=some l.2:=by rw[←L];exact ZF hi.lk (show(l.1,l.2)∈H.live from S)
 have p:H1.live=cR H.live b.2.2.1:=by
  rcases fe with⟨_,_,h⟩|⟨_,h,_⟩|⟨_,_,_,_,h⟩
  ·exfalso;unfold Qw at hrd;rw[Hy]at hrd;split at hrd
   ·cases hrd
   ·rename_i hth;have s:=g.ph thread.toNat;unfold Kv at h;have C:thread.toNat<H.bQ.length:=by omega
    rw[zC (show 0<=thread/\thread<((iC H b).bQ.length:Int)from⟨O,by show thread<(H.bQ.length:Int);omega⟩)]at h;have M:(iC H b).bQ[thread.toNat]?=some H.bQ[thread.toNat]:=cU C;rw[M]at h;simp only at h;unfold fH at s;rw[cU C]at s;rw[zC (show H.bQ[thread.toNat].ph=none from s)]at h;unfold iM at h;rw[zB aB,zC rfl]at h;cases h
  ·rw[E,G]at h;cases h
  ·exact h
 have F:=FI K;have u:∃s1,HI (iC H b) held s1:=HI.j6 _ _ hi;obtain⟨s1,u⟩:=u;have d:∀k∈x.kn,k.1≠addr->∀z,(z∈XV k.2\/z∈Qv k.2)->QJ H1.sp z=QJ H.sp z:=λk hk m z A=>by
  obtain⟨Q,J,V,W⟩:=g.of hk;obtain⟨⟨w,rfl⟩,P,N⟩:=(g.i k hk).2.word A;rw[(Ap u o.ks (l:=Q) J (w:=w) O O).1];show QJ (j6 H.sp (Qv b) λ_=>Ek) _=_;rw[KR F,zB];rintro⟨hw,_⟩;have D:=K.word (.inr hw);have:=g.apart hi hk a P N D.2.1 D.2.2;subst this;exact m rfl
 have r:∀k,k∈(x.gone addr).kn↔k∈x.kn/\k.1≠addr:=λk=>by
  show k∈cR x.kn addr↔_;unfold cR;rw[zI];simp
 refine⟨⟨?_,λk hk z A=>?_,λj=>(o.ph j).trans (g.ph j),λk hk=>g.i k ((r k).1 hk).1,?_⟩,λk hk m=>⟨(r k).2 ⟨hk,m⟩,λz A=>d k hk m z (.inr A)⟩⟩
 ·rw[p];show(cR H.live b.2.2.1).map _=(cR x.kn addr).map _;unfold cR;have e1:(H.live.filter λy=>!(y.1==b.2.2.1)).map (λe=>(e.1,e.2.2.1))=(H.live.map λe=>(e.1,e.2.2.1)).filter λq=>!(q.1==b.2.2.1):=by rw[vS];rfl
  rw[e1,g.live,vS]
  congr 1
  apply ur;intro k hk;simp only[Function.comp]
  congr 1
  rw[l9,zT,zT];constructor
  ·intro h;have:=Uy (g.se hi) hk a h;rw[this]
  ·intro h;have:=Uy g.nd hk a h;rw[this]
 ·have:=(r k).1 hk;rw[d k this.1 this.2 z (.inl A)];exact g.can k this.1 z A
 ·show((cR x.kn addr).map _).Nodup;exact g.nd.sublist (List.filter_sublist.map _)
end Go.Ar
namespace Go.Ar
open Go Go.Vc Go.Proofs
open Go.Vc (bU dA cR)
variable {size align:Int}{U σ0 v w w':Hp}{F P Q X T:Rg}{L:dI}{H H' H1:Hw}{held:List Pc}{s0 sp:Sp}{t n:Nat}{g:Th}{gb km fm m xb:Nat}{x y:Gu}{b:B5}
def wj (gb:Nat)(addrs ls:Sl):List Value:=[.pointer (some ⟨gb,0,none⟩),.slice addrs.a addrs.len addrs.cap,.slice ls.a ls.len ls.cap]
def qZ (P:Rg)(gb km fm xb:Nat)(Qa Ql:Rg):Rg:=λb=>Mg P gb km fm b\/b=xb\/Qa b\/Ql b
structure k7 (σ0 U:Hp) (xb:Nat) (L:dI) (H:Hw) (held:List Pc) (s0:Sp) (P:Rg) (gb km fm:Nat) (x:Gu) (Qa Ql:Rg) (addrs:Sl) (ad:List Int) (ls:Sl) (la:List T3):Prop where
 p:GP σ0 U L H held s0 P gb km fm x
 b:bY U xb (wj gb addrs ls)
 ra:bR addrs 1 (Wj ad) U Qa
 rl:bR ls 3 (kg la) U Ql
 wQ:σ0.size<=xb/\¬Mg P gb km fm xb/\¬Qa xb/\¬Ql xb
 qa:∀b,Qa b->σ0.size<=b/\b<U.size/\¬Mg P gb km fm b
 ql:∀b,Ql b->σ0.size<=b/\b<U.size/\¬Mg P gb km fm b
 qq:∀b,Qa b->¬Ql b
variable {Qa Ql:Rg}{addrs ls:Sl}{ad:List Int}{la:List T3}
theorem k7.fr (o:k7 σ0 U xb L H held s0 P gb km fm x Qa Ql addrs ad ls la)(e:aG U w):k7 σ0 w xb L H held s0 P gb km fm x Qa Ql addrs ad ls la:=
 ⟨o.p.fr e,e.bT o.b id,aI.bO o.ra e,aI.bO o.rl e,o.wQ,λb a=>by have h:=o.qa b a;have:=e.1;exact⟨h.1,O,h.2.2⟩,λb a=>by have h:=o.ql b a;have:=e.1;exact⟨h.1,O,h.2.2⟩,o.qq⟩
theorem uI {P':Rg}(hg:gb<n/\km<n/\fm<n)(hP:∀b,P' b->P b\/n<=b):∀b,Mg P' gb km fm b->Mg P gb km fm b\/n<=b:=by
 rintro b (h|h)
 ·exact(hP b h).imp .inl id
 ·exact .inl (.inr h)
theorem k7.fo (o:k7 σ0 U xb L H held s0 P gb km fm x Qa Ql addrs ad ls la){L':dI}{held':List Pc}{s0':Sp}{P':Rg}(e:Ext (Mg P gb km fm) U w)(p':GP σ0 w L' H' held' s0' P' gb km fm y)(hP:∀b,P' b->P b\/U.size<=b) :
 k7 σ0 w xb L' H' held' s0' P' gb km fm y Qa Ql addrs ad ls la:=by
 have C:=e.1;have d:=o.b.lt;obtain⟨z,r,B,A⟩:=o.wQ;have g:∀b,b<U.size->¬Mg P gb km fm b->¬Mg P' gb km fm b:=λb D u s=>by
  rcases uI ⟨o.p.b.lt,o.p.m.lt,o.p.f.lt⟩ hP b s with h4|h4
  ·exact u h4
  ·omega
 exact⟨p',e.bT o.b r,aI.bS o.ra e λb _ i j=>(o.qa b i).2.2 j,aI.bS o.rl e λb _ i j=>(o.ql b i).2.2 j,⟨z,g _ d r,B,A⟩,λb a=>by have h:=o.qa b a;exact⟨h.1,O,g b h.2.1 h.2.2⟩,λb a=>by have h:=o.ql b a;exact⟨h.1,O,g b h.2.1 h.2.2⟩,o.qq⟩
theorem G3 {c:Nat}(h:¬Mg P gb km fm c):¬P c/\c≠gb/\c≠km/\c≠fm:=⟨λa=>h (.inl a),λe=>h (.inr (.inl e)),λe=>h (.inr (.inr (.inl e))),λe=>h (.inr (.inr (.inr e)))⟩
theorem yE (p:GP σ0 U L H held s0 P gb km fm x){c:Nat}(h:Mg P gb km fm c):c<U.size:=by
 rcases h with h|rfl|rfl|rfl
 ·exact(p.pP c h).2
 ·exact p.b.lt
 ·exact p.m.lt
 ·exact p.f.lt
theorem k7.cD (o:k7 σ0 U xb L H held s0 P gb km fm x Qa Ql addrs ad ls la){s':Sl}{ad':List Int}(e:Ext Qa U w)(hr:bR s' 1 (Wj ad') w λb=>Qa b\/U.size<=b/\b<w.size){K:aP}
 (hK:∀u,Ext (· = xb) w u->k7 σ0 u xb L H held s0 P gb km fm x (λb=>Qa b\/U.size<=b/\b<w.size) Ql s' ad' ls la->K u):dU (Addr.add ⟨xb,0,none⟩ 1) (.slice s'.a s'.len s'.cap) w K:=by
 have J:=e.1;have C:=o.b.lt;obtain⟨A,y,s,B⟩:=o.wQ;have D:=o.p.out e λb _ d=>by have h:=o.qa b d;have g:=G3 h.2.2;exact⟨g.1,g.2.1,g.2.2.1,g.2.2.2,h.1⟩
 have r:=aI.bS o.rl e λb _ m F=>o.qq b F m;refine(e.bT o.b s).s1 (by simp[wj]) λu z b=>?_;have j:=z.ext;have E:=z.1;have g:=G3 y;refine hK u j ⟨D.out j λb _ (d:b=xb)=>by subst d;exact⟨g.1,g.2.1,g.2.2.1,g.2.2.2,A⟩,b,aI.bS hr j λb _ i (d:b=xb)=>?_,aI.bS r j λb _ i (d:b=xb)=>B (d▸i),⟨A,y,?_,B⟩,λb d=>?_,λb d=>by have h:=o.ql b d;exact⟨h.1,O,h.2.2⟩,λb d m=>?_⟩
 ·subst d;rcases i with i|i
  ·exact s i
  ·omega
 ·rintro(i|i)
  ·exact s i
  ·omega
 ·rcases d with d|d
  ·have h:=o.qa b d;exact⟨h.1,O,h.2.2⟩
  ·have:=o.p.e.1;exact⟨O,O,λG=>by have:=yE o.p G;omega⟩
 ·rcases d with d|d
  ·exact o.qq b d m
  ·have:=(o.ql b m).2.1;omega
theorem k7.gT (o:k7 σ0 U xb L H held s0 P gb km fm x Qa Ql addrs ad ls la){s':Sl}{la':List T3}{Ql':Rg}(e:Ext Ql U w)(hr:bR s' 3 (kg la') w Ql')(hQ:∀b,Ql' b->Ql b\/U.size<=b/\b<w.size){K:aP}
 (hK:∀u,Ext (· = xb) w u->k7 σ0 u xb L H held s0 P gb km fm x Qa Ql' addrs ad s' la'->K u):dU (Addr.add ⟨xb,0,none⟩ 2) (.slice s'.a s'.len s'.cap) w K:=by
 have M:=e.1;have D:=o.b.lt;obtain⟨A,s,y,B⟩:=o.wQ;have E:=o.p.out e λb _ d=>by have h:=o.ql b d;have g:=G3 h.2.2;exact⟨g.1,g.2.1,g.2.2.1,g.2.2.2,h.1⟩
 have r:=aI.bS o.ra e λb _ G i=>o.qq b G i;refine(e.bT o.b B).s1 (by simp[wj]) λu z b=>?_;have j:=z.ext;have F:=z.1;have g:=G3 s;have C:¬Ql' xb:=λh=>by
  rcases hQ xb h with h|h
  ·exact B h
  ·omega
 refine hK u j ⟨E.out j λb _ (d:b=xb)=>by subst d;exact⟨g.1,g.2.1,g.2.2.1,g.2.2.2,A⟩,b,aI.bS r j λb _ m (d:b=xb)=>y (d▸m),aI.bS hr j λb _ m (d:b=xb)=>C (d▸m),⟨A,s,y,C⟩,λb d=>by have h:=o.qa b d;exact⟨h.1,O,h.2.2⟩,λb d=>?_,λb d i=>?_⟩
 ·rcases hQ b d with d|d
  ·have h:=o.ql b d;exact⟨h.1,O,h.2.2⟩
  ·have:=o.p.e.1;exact⟨O,O,λJ=>by have:=yE o.p J;omega⟩
 ·rcases hQ b i with i|i
  ·exact o.qq b d i
  ·have:=(o.qa b d).2.1;omega
theorem Iu {s:Sl}{l:List T3}(hs:cT s 3 (kg l) U F){i:Nat}{r:T3}(hb:l[i]?=some r){K:Addr->Prop}(hK:∀bb o,(∀(j:Nat) v,(v3 r)[j]?=some v->cell U ⟨bb,o+j,none⟩=some v)->K ⟨bb,o,none⟩):Ix s.a s.len (i:Int) 3 K:=by
 have m:=(cX.1 hb).1;have x:s.len=l.length:=by have:=hs.1;rw[VS]at this;omega
 obtain⟨b,o,e,_⟩:=hs.cell (j:=i*3+0) (v:=.int .i64 r.1) ((HN hb O).trans rfl);rw[e];refine ix O O ?_;rw[add_lit];refine hK b _ λj v g=>?_;have p:j<3:=(cX.1 g).1;obtain⟨w,y,d,u⟩:=hs.cell ((HN hb p).trans g);rw[e]at d;cases d;rw[show o+(i:Int).toNat*3+j=o+(i*3+j) by omega];exact u
theorem M8 {S:aP}(hr:bR ls 3 (kg la) U Q)(hl:la.length<=100000)(k:T3)(hS0:∀u,aG U u->S u){e t:Nat}{K:Sl->Hp->Prop}
 (hK:∀s' w,Ext Q U w->bR s' 3 (kg (la++[k])) w (λb=>Q b\/U.size<=b/\b<w.size)->S w/\K s' w) :
 Nw (.cells #[.int .i64 k.1,.int .i64 k.2.1,.int .i64 k.2.2] t (0,0)) U λn v=>And (S v)<|App ls 3 24 e [.int .i64 0,.int .i64 0,.int .i64 0] ⟨some n,1,1⟩ v λs' w=>And (S w)<|K s' w:=by
 have i:ls.len=la.length:=by have:=hr.1;rw[VS]at this;omega
 refine nw (cs:=v3 k) λv y e1 g=>⟨hS0 v e1,?_⟩;have a:=aI.bO hr e1;refine a.app (ys:=v3 k) rfl (by simp[v3]) ?_ (by simp[v3,dO]) ?_ ?_ mU λs' h' x s d=>?_
 ·intro j u hu;rw[add_lit,zH,g.cell];exact hu
 ·simp only;omega
 ·simp only;omega
 ·have m:Ext Q U h':=e1.to.trans s;refine hK s' h' m ?_;rw[BZ];refine aI.mono (aI.cut d) λb r p=>?_;rcases p.1 with h1|h1
  ·exact .inl h1
  ·exact .inr ⟨O,r⟩
inductive kZ (H:Hw) (x:Gu) (d:eY) (a:Int):Hw->Gu->Int->Option Int->Bool->Prop where
 | same (e:Int):(e=0->d.kd≠20/\d.kd≠21/\d.kd≠22)->kZ H x d a H x e none false
 | full {H':Hw} {e:Int}:d.kd=20->nt d.a d.b=true->e≠0->Uh H d.th 0 (zA d.b+YI d.a+16) (zA d.b) 0 H' 0 e->gg H H'->H'.live=H.live->kZ H x d a H' x e none false
 | fM {b:B5} {H1:Hw}:d.kd=20->yu H x d.a d.b b H1->Uh H d.th 0 (zA d.b+YI d.a+16) (zA d.b) 0 H1 b.2.2.1 0->gg H H1->kZ H x d a {H1 with sp:=l8 H1.sp b} (x.fM b) 0 (some b.1) false
 | mV {b:B5} {H1:Hw} {e:Int}:(d.kd=21\/d.kd=22)->bU x.kn a=some b->kD H x d.th a true=0->Uh (iC H b) d.th 1 0 0 b.2.2.1 H1 0 e->gg (iC H b) H1->pa (iC H b) d.th b.2.2.1 H1 e->kZ H x d a H1 (x.gone a) 0 none true
 | wrote:d.kd=26->rz H x a 0->kZ H x d a {H with sp:=W5 H.sp a d.va} x (dT H.sp a) none false
def IE (d:eY)(add:Option Int)(del:Bool)(a:Int)(la:List T3):List T3:=match add with
 | some b=>la++[(b,d.a,d.b)]
 | none=>if del then la.filter λq=>!(q.1==a)else la
theorem xA {P' Qa' Ql':Rg}(hP:∀b,Mg P' gb km fm b->Mg P gb km fm b\/n<=b)(hA:∀b,Qa' b->Qa b\/n<=b)(hL:∀b,Ql' b->Ql b\/n<=b):∀b,qZ P' gb km fm xb Qa' Ql' b->qZ P gb km fm xb Qa Ql b\/n<=b:=by
 rintro b (h|h|h|h)
 ·exact(hP b h).imp .inl id
 ·exact .inl (.inr (.inl h))
 ·exact(hA b h).imp (λh=>.inr (.inr (.inl h))) id
 ·exact(hL b h).imp (λh=>.inr (.inr (.inr h))) id
set_option maxRecDepth 16000 in
theorem Pw (o:k7 σ0 U xb L H held s0 P gb km fm x Qa Ql addrs ad ls la)(gc:Gc σ0)(xi:∀e∈x.kn,e.1=e.2.1/\gL e.2)(x0:0<=x.no/\x.no<=100000)(hsw:(oe H x).length<=1000000)(hal:ad.length<=100000)(hll:la.length<=100000)(d:eY)(di:lT d){R:aN}
 (hR:∀e w L' H' held' s0' P' x' Qa' Ql' addrs' ls' add del,k7 σ0 w xb L' H' held' s0' P' gb km fm x' Qa' Ql' addrs' (ad++add.toList) ls' (IE d add del (rk ad d) la)->L'.p=L.p->kZ H x d (rk ad d) H' x' e add del->QA H' H->Ext (qZ P gb km fm xb Qa Ql) U w/\(∀b,qZ P' gb km fm xb Qa' Ql' b->qZ P gb km fm xb Qa Ql b\/U.size<=b)->R e w) :
 Xk.c (aW xb) d.kd d.th d.a d.b d.of d.pl d.va d.s U R:=by
 refine Xk.o ?_;unfold Xk.v;have tM:∀{u u':Hp},Ext (Mg P gb km fm) u u'->Ext (qZ P gb km fm xb Qa Ql) u u':=λe=>e.sub λb g=>.inl g;have tX:∀{u u':Hp},Ext (· = xb) u u'->Ext (qZ P gb km fm xb Qa Ql) u u':=λe=>e.sub λb g=>.inr (.inl g);have tA:∀{u u':Hp},Ext Qa u u'->Ext (qZ P gb km fm xb Qa Ql) u u':=λe=>e.sub λb g=>.inr (.inr (.inl g));have tL:∀{u u':Hp},Ext Ql u u'->Ext (qZ P gb km fm xb Qa Ql) u u':=λe=>e.sub λb g=>.inr (.inr (.inr g));have hxb:=o.b.lt;have h00:=o.p.e.1;have G:gb<U.size/\km<U.size/\fm<U.size:=⟨o.p.b.lt,o.p.m.lt,o.p.f.lt⟩;refine nw (cs:=re d) λv hz e g=>bK ((o.fr e).b.rS rfl (g.rI rfl (g.rI rfl (g.rI rfl (g.rI rfl (g.rI rfl (g.rI rfl (g.rI rfl (g.rT rfl ?_)))))))));have o1:=o.fr e;refine Me (bR.fX o1.ra) d λv1 e1=>?_;have o2:=o1.fr e1;have D:=e.trans e1;have X:U.size<=v1.size:=D.1;have C:=e1.bT g id;have ac:=Mf (ad:=ad) di;generalize hx:rk ad d=ax at ac hR;have hnM:¬Mg P gb km fm U.size:=λN=>by have:=yE o.p N;omega
 have same:∀e w,(e=0->d.kd≠20/\d.kd≠21/\d.kd≠22)->aG v1 w->R e w:=λe w he z=>by
  have oo:=o.fr (D.trans z);refine hR e w L H held s0 P x Qa Ql addrs ls none false ?_ rfl (.same e he) (QA.refl _) ⟨aG.to (D.trans z),λ_=>.inl⟩;rw[show ad++(none:Option Int).toList=ad by simp];exact oo
 refine C.rI rfl (cO (λhk=>?_) λhk0=>?_)
 ·have A:d.kd=20:=by simpa using hk
  refine⟨λm=>aG v1 m,Ext.refl _ _,bK (gp (c:=.p) (y:=some ⟨gb,0,none⟩) (λm e=>e.bT o2.b id) rfl (gp (c:=bN) (y:=d.th) (λm e=>e.bT C id) rfl (gp (c:=bN) (y:=d.a) (λm e=>e.bT C id) rfl (gp (c:=bN) (y:=d.b) (λm e=>e.bT C id) rfl ?_))))⟩;refine FZ o2.p gc x0 d.th d.a d.b (λw hgk z=>?_) (λe w ts H' held' s0' P' hgk B hw op V E Z j=>?_) λb w ts H1 held' s0' P' gr hw op E Z j=>?_
  ·exact cB aB (same 1 w (λh=>by cases h) z)
  ·refine cB (by simpa using B) ?_;have o3:=o2.fo (E.sub λc hc=>.inl hc) Z j;refine hR e w {L with ts:=ts} H' held' s0' P' x Qa Ql addrs ls none false ?_ rfl (.full A hgk B hw op V) op.kp ⟨(aG.to D).trans (tM (E.sub λc hc=>.inl hc)),xA (uI G λb h=>(j b h).imp id λh=>zY X h) (λ_=>.inl) (λ_=>.inl)⟩;rw[show ad++(none:Option Int).toList=ad by simp];exact o3
  ·refine cC rfl ?_;have o3:=o2.fo E Z j;have hb3:=E.bT C hnM;refine bK (o3.b.rS rfl (EW o3.ra O b.1 λs' u1 e4 hr4=>bK (o3.cD e4 hr4 λu2 e5 o5=>?_)));have ab:bY u2 U.size (re d):=e5.bT (e4.bT hb3 λhq=>by have:=(o.qa _ hq).2.1;omega) λ(hx:U.size=xb)=>by omega
   refine⟨λm=>bY m xb (wj gb s' ls)/\bY m U.size (re d),⟨o5.b,ab⟩,bK (gp (c:=.s) (y:=ls) (λm N=>N.1) rfl (gp (c:=bN) (y:=d.a) (λm N=>N.2) rfl (gp (c:=bN) (y:=d.b) (λm N=>N.2) rfl ?_)))⟩;refine M8 o5.rl hll (b.1,d.a,d.b) (λu S=>⟨S.bT o5.b id,S.bT ab id⟩) λs2 u3 e6 hr6=>⟨⟨e6.bT o5.b o5.wQ.2.2.2,e6.bT ab λhq=>?_⟩,bK (o5.gT e6 hr6 (λ_ h=>h) λu4 e7 o7=>?_)⟩
   ·have:=(o.ql _ hq).2.1;omega
   have z3:=E.1;have z4:=e4.1;have z5:=e5.1;exact hR 0 u4 _ _ held' s0' P' _ _ _ s' s2 (some b.1) false o7 rfl (.fM A gr hw op) op.kp ⟨((((((aG.to D).trans (tM E)).trans (tA e4)).trans (tX e5)).trans (tL e6)).trans (tX e7)),xA (uI G λb h=>(j b h).imp id λh=>zY X h) (λb h=>h.imp id λh=>zY (zY X z3) h.1) (λb h=>h.imp id λh=>zY (zY (zY (zY X z3) z4) z5) h.1)⟩
 have k0:d.kd≠20:=by simpa using hk0
 have jn:(d.kd=21\/d.kd=22)\/¬(d.kd=21\/d.kd=22):=Decidable.em _;refine yX (λr u=>u=v1/\r=decide (d.kd=21\/d.kd=22)) (λr u ⟨hu,hr⟩=>?_) λJ hJ=>cO (λh=>hJ _ _ ⟨rfl,?_⟩) λh=>hJ _ _ ⟨rfl,?_⟩
 ·rw[hu];rcases jn with A|A
  ·refine cC (by rw[hr];exact zJ A) (bK (o2.b.rP rfl (C.rI rfl (V2 (VY o2.p gc xi d.th ax true (λw B z=>?_) λb w ts H1 held' s0' P' e N hf hw op fe E Z j=>?_)))))
   ·exact cB (by simpa using B) (same _ w (λh=>absurd h B) z)
   ·refine cC rfl ?_;have o3:=o2.fo E Z j;have hb3:=E.bT C hnM;have hll3:ls.len=la.length:=by have:=o3.rl.1;rw[VS]at this;omega
    have z3:=E.1;refine VO (a:=.s) (bb:=bN) (λ(l:Sl) (i:Int) u=>∃k:Nat,i=k/\k<=la.length/\Ext (λb=>w.size<=b) w u/\bR l 3 (kg ((la.take k).filter λq=>!(q.1==ax))) u (λb=>w.size<=b)) (λ_ i _=>la.length-i.toNat) ⟨0,rfl,O,Ext.refl _ _,⟨rfl,.inl ⟨rfl,rfl⟩⟩⟩ ?_;rintro(l:Sl) (i:Int) u ⟨k,rfl,hk,S,V⟩;have Y:aG w u:=⟨S.1,λb g _=>S.2 b g O⟩;have ou:=o3.fr Y;have hlk:l.len<=k:=by
     have h1:((la.take k).filter λq:T3=>!(q.1==ax)).length*3=l.len*3:=by have:=V.1;rw[VS]at this;exact this
     have h2:=rh (λq:T3=>!(q.1==ax)) (la.take k);rw[za,pU hk]at h2;omega
    refine bK (ou.b.rS rfl (cP (λhlt=>?_) λhge=>?_))
    ·have hk':k<la.length:=by simp only at hlt;omega
     have hg:la[k]?=some la[k]:=cU _;generalize la[k]=q at hg;have htk:la.take (k+1)=la.take k++[q]:=by rw[kN,hg];rfl
     refine bK (ou.b.rS rfl (Iu (bR.fX ou.rl) hg λbb o' K=>fE (K 0 _ rfl) (cO (λB=>?_) λaa=>?_)))
     ·have B:¬q.1=ax:=by simpa using B
      refine bK (ou.b.rS rfl (Iu (bR.fX ou.rl) hg λbb o' K=>fE (K 0 _ rfl) (fE (K 1 _ rfl) (fE (K 2 _ rfl) ?_))));have hl1:=V.1;rw[VS]at hl1;refine V.push (F:=λb=>w.size<=b) (vs:=v3 q) (λb g=>by have:=S.1;omega) rfl rfl (by simp[v3,dO]) O O λs' w' hsl' ew' hr'=>?_;refine cS (m:=k+1) O O ⟨⟨k+1,rfl,O,S.trans ew',?_⟩,O⟩;rw[htk,uB,tG (by simpa using B),List.filter_nil,BZ];exact hr'
     ·have aa:q.1=ax:=by simpa using aa
      refine cS (m:=k+1) O O ⟨⟨k+1,rfl,O,S,?_⟩,O⟩;rw[htk,uB,sr (by simp[aa]),List.filter_nil,kI];exact V
    ·have hkk:k=la.length:=by simp only at hge;omega
     subst hkk;rw[l0]at V;refine bK (o3.gT (Ql':=λb=>w.size<=b/\b<u.size) Y.to (aI.mono (aI.cut V) λb _ g=>g) (λb g=>.inr g) λu2 e7 o7=>?_);refine hR 0 u2 {L with ts:=ts} H1 held' s0' P' _ Qa (λb=>w.size<=b/\b<u.size) addrs l none true ?_ rfl (.mV A N hf hw op fe) op.kp ⟨(((aG.to D).trans (tM E)).trans (aG.to Y)).trans (tX e7),xA (uI G λb h=>(j b h).imp id λh=>zY X h) (λ_=>.inl) (λb h=>.inr (zY (zY X z3) h.1))⟩;rw[show ad++(none:Option Int).toList=ad by simp];exact o7
  ·have h3:d.kd≠20/\d.kd≠21/\d.kd≠22:=⟨k0,λh=>A (.inl h),λh=>A (.inr h)⟩;refine cB (by rw[hr];exact zN A) (cO (λ_=>bK (o2.b.rP rfl (Hh o2.p xi ax λs w Q z _ _=>same _ w (λ_=>h3) z))) λ_=>?_);refine cO (λ_=>bK (o2.b.rP rfl (Ep o2.p xi hsw λs w z _=>same 0 w (λ_=>h3) z))) λ_=>?_;refine cO (λ_=>bK (o2.b.rP rfl (Ra o2.p xi ax ac.2 (λe w _ z _=>same e w (λ_=>h3) z) λw z _=>same _ w (λ_=>h3) z))) λ_=>?_;refine cO (λh26=>bK (o2.b.rP rfl (C.rI rfl (Bb o2.p gc xi ax d.va ac.2 (λe w _ z _=>same e w (λ_=>h3) z) λw s0' P' wd E Z j=>?_)))) λ_=>?_
   ·have o3:=o2.fo (E.sub λc hc=>.inl hc) Z j;refine hR _ w L _ held s0' P' x Qa Ql addrs ls none false ?_ rfl (.wrote (by simpa using h26) wd) (QA.refl _) ⟨(aG.to D).trans (tM (E.sub λc hc=>.inl hc)),xA (uI G λb h=>(j b h).imp id λh=>zY X h) (λ_=>.inl) (λ_=>.inl)⟩;rw[show ad++(none:Option Int).toList=ad by simp];exact o3
   refine cO (λ_=>bK (o2.b.rP rfl ?_)) λ_=>same 0 v1 (λ_=>h3) (Ext.refl _ _);have W:∀{e w:_} {a b c f:Int},aG v1 w->Nw (.cells #[.int .i64 0,.int .i64 0,.int .i64 0,.int .i64 0] 52 (0,0)) w λM v20=>dU (M.add 0) (.int .i64 a) v20 λv21=>dU (M.add 1) (.int .i64 b) v21 λv22=>dU (M.add 2) (.int .i64 c) v22 λv23=>dU (M.add 3) (.int .i64 f) v23 λv24=>R e v24:=λ{e w a b c f} z=>
    nw (cs:=[.int .i64 0,.int .i64 0,.int .i64 0,.int .i64 0]) λv20 hz20 e20 b20=>b20.s1 aA λv21 o21 b21=>b21.s1 aA λv22 o22 b22=>b22.s1 aA λv23 o23 b23=>b23.s1 aA λv24 o24 b24=>
     same e v24 (λ_=>h3) (z.trans (Ext.fresh e20 (((o21.ext.trans o22.ext).trans o23.ext).trans o24.ext) λi (hi:i=w.size)=>O))
   exact MK o2.p xi ax (λw z _=>W z) λk w z _ _=>W z
 ·rw[h,zJ (Or.inl (by simpa using h))]
 ·have h21:¬d.kd=21:=by simpa using h
  rw[l9,zT,decide_eq_true_iff];exact⟨.inr,λh=>h.resolve_left h21⟩
end Go.Ar
namespace Go.Ar
open Go Go.Vc Go.Proofs
open Go.Vc (bU dA cR)
open Go.Bu (eV Vi UZ)
variable {size align a:Int}{U σ0 v w w':Hp}{F P Q X T:Rg}{L:dI}{H H' H1:Hw}{held held' held1:List Pc}{s0 s0' s1 sp:Sp}{t n:Nat}{gb km fm m xb:Nat}{x x' y:Gu}{b:B5}{ad:List Int}{la:List T3}{d:eY}{add:Option Int}{del:Bool}{e:Int}{l:Sl}{ds:List eY}
theorem Eu {s c al:Int}{i:Int}(h1:256%al=0)(h2:c%al=0):(s*256+i*c)%al=0:=by
 obtain⟨a,e1⟩:=xR h1;obtain⟨b,e2⟩:=xR h2;refine Int.emod_eq_zero_of_dvd ⟨s*a+i*b,?_⟩;rw[e1,e2,Int.mul_add,Int.mul_left_comm s,Int.mul_left_comm i]
theorem Mx (hi1:HI H1 held1 s1)(hp:HI H held s0)(ht:H1.tb=H.tb){al base:Int}(h256:256%al=0)(me:qL H size al H1 base 0):base%al=0:=by
 rcases me with⟨h,_⟩|⟨_,hm,_,cl,hl,hcl⟩
 ·exact absurd rfl h
 have x:(base,((base,(oC H.tb size al).1,cl,XU H1.bX base):Bk))∈H1.live:=by rw[hl];exact Vb (CF _)
 obtain⟨_,p,z,_,E,y,_,_⟩:=hi1.lv _ x;obtain⟨A,C,hd⟩:=hi1.wi.hf p z;simp only at E y;rcases hd with⟨q1,_,r,_,q2,_⟩|⟨j,c,q1,q2,_,q3,_⟩
 ·rw[←y,q2];have:((r.1*256:Nat):Int)=(r.1:Int)*256+0*0:=by omega
  rw[this];exact Eu h256 aA
 ·rcases hcl with⟨k,rfl,hk⟩|⟨rfl,_⟩
  ·have u:j=k:=by omega
   subst u;obtain⟨G,g,_,e⟩:=Iy hk;have b:A.tb=H1.tb:=hi1.wi.tb _ A C;rw[b,ht,g]at q2;cases q2;obtain⟨B,F,a,m⟩:=q3;have d:=(hi1.wi.ga _ A C).cE _ _ _ a;have w:B=c:=by
    have:=a.1;rw[b,ht,g]at this;exact(Option.some.inj this).symm
   subst w;obtain⟨_,s,i,_,_,D,_⟩:=(VH d).1 m;rw[←y,D];have:((at_ B s i:Nat):Int)=(s.st:Int)*256+(i:Int)*(B.size:Int):=by unfold at_;simp
   rw[this];exact Eu h256 e
  ·omega
theorem MG {al:Int}(h1:1<=al)(h2:al<=256)(hp:eV al=true):256%al=0/\(al<16->16%al=0):=by
 obtain⟨al,rfl⟩:=zc (show 0<=al by omega);rw[Vi]at hp;have key:∀a:Nat,a<=256->1<=a->(a &&& (a-1)=0)->256%a=0/\(a<16->16%a=0):=by decide +kernel
 have:=key al O O (by have:=UZ (a:=al) O O;rw[hp]at this;simpa using this);exact⟨by rw[show(256:Int)=((256:Nat):Int)from rfl,←Int.natCast_emod,this.1];rfl,λh=>by rw[show(16:Int)=((16:Nat):Int)from rfl,←Int.natCast_emod,this.2 O];rfl⟩
theorem J5 {al:Int}(h1:1<=al)(h2:al<=256)(hp:eV al=true):256%zA al=0/\zA al%al=0:=by
 have:=MG h1 h2 hp;unfold zA;split
 ·exact⟨by decide,this.2 O⟩
 ·exact⟨this.1,by simp⟩
structure AL (H:Hw) (x:Gu) (ad:List Int) (la:List T3):Prop where
 g:dN H x
 n0:0<=x.no
 nl:(x.kn.length:Int)<=x.no/\(ad.length:Int)<=x.no
 lq:la.map (λa=>(a.1,a.2.1,zA a.2.2))=x.kn.map (λe=>(e.1,e.2.2.1,e.1-e.2.2.2.1))
 ok:∀a∈la,nt a.2.1 a.2.2=true/\a.1%a.2.2=0
 dq:∀a∈ad,(bU x.kn a).isSome=true\/bU x.fr a=some true
 th:1<=H.cf.threads
theorem AL.out (al:AL H x ad la)(hi:HI H held s0)(cf:j0 H)(o:kZ H x d a H' x' e add del):AL H' x' (ad++add.toList) (IE d add del a la)/\x'.no<=x.no+1/\∀k∈x.kn,¬(k.1<=a/\a<k.1+YI k.2.2.1)->Kept H x H' x' k:=by
 have g:=al.g;have E:ad++(none:Option Int).toList=ad:=by simp
 cases o with
 | same e W=>rw[E];exact⟨al,O,λk j _=>⟨j,λ_ _=>rfl⟩⟩
 | full j y r F op hl=>
  rw[E];obtain⟨A,D⟩:=g.same hi op hl;exact⟨⟨A,al.n0,al.nl,al.lq,al.ok,al.dq,by rw[op.kp.2.1];exact al.th⟩,O,λk j _=>D k j⟩
 | fM j gr F op=>
  rename_i b H1;obtain⟨P,s1,C⟩:=op.hi;obtain⟨A,U,Z,_,_⟩:=g.fM hi gr op C;have w:=gr.ok;unfold nt at w;rw[zF,zU]at w;obtain⟨⟨_,_,k3,X⟩,kp⟩:=w;obtain⟨J,G⟩:=J5 k3 X kp;have K:=Mx C hi op.kp.1 J gr.me;have B:(x.fM b).no=x.no+1:=rfl;have N:(x.fM b).fr=x.fr:=rfl;refine⟨⟨A,by have:=al.n0;omega,⟨?_,?_⟩,?_,λq u=>?_,λz p=>?_,by show 1<=H1.cf.threads;rw[op.kp.2.1];exact al.th⟩,O,λk j _=>Z k j⟩
  ·rw[U,B,zO];have:=al.nl.1;simp;omega
  ·rw[B,zO];have:=al.nl.2;simp;omega
  ·show(la++[(b.1,d.a,d.b)]).map _=_;rw[U,zy,zy,al.lq]
   congr 1
   simp only[zR,pX,gr.s];have:=gr.a
   congr 3
   omega
  ·rcases zK.1 (show q∈la++[(b.1,d.a,d.b)]from u)with u|u
   ·exact al.ok q u
   ·rw[zL]at u;subst u;refine⟨gr.ok,?_⟩;show b.1%d.b=0;obtain⟨Y,e1⟩:=xR K;obtain⟨R,e2⟩:=xR G;refine Int.emod_eq_zero_of_dvd ⟨R*Y+R,?_⟩;rw[gr.a,e1,Int.mul_add,←Int.mul_assoc,←e2]
  ·have M:(x.fM b).kn=dA x.kn b.1 b:=rfl;rw[M,N,VJ];rcases zK.1 p with p|p
   ·split
    ·exact .inl rfl
    ·exact al.dq z p
   ·simp only[xS,zL]at p;subst p;rw[zC rfl];exact .inl rfl
 | mV j hm hf F op fe=>
  rename_i b e;rw[E];have L:Qw H d.th=0:=by
   by_cases h:Qw H d.th=0
   ·exact h
   ·unfold kD at hf;rw[zC h]at hf;exact absurd hf h
  obtain⟨A,D⟩:=g.free hi hm F op fe L cf.2.1;have y:(x.gone a).kn=cR x.kn a:=rfl;have Q:(x.gone a).fr=dA x.fr a true:=rfl;refine⟨⟨A,al.n0,⟨?_,al.nl.2⟩,?_,λq u=>al.ok q (zI.1 u).1,λz p=>?_,by rw[op.kp.2.1];exact al.th⟩,by show x.no<=_;omega,λk j r=>D k j λh=>r ?_⟩
  ·rw[y];have h1:=rh (λq:Int×B5=>!(q.1==a)) x.kn;have h2:=al.nl.1;show((x.kn.filter _).length:Int)<=x.no;omega
  ·show(la.filter λq=>!(q.1==a)).map _=(x.kn.filter λq=>!(q.1==a)).map _;have e1:(la.filter λq=>!(q.1==a)).map (λa=>(a.1,a.2.1,zA a.2.2))=(la.map λa=>(a.1,a.2.1,zA a.2.2)).filter λq=>!(q.1==a):=by rw[vS];rfl
   have e2:(x.kn.filter λq=>!(q.1==a)).map (λe=>(e.1,e.2.2.1,e.1-e.2.2.2.1))=(x.kn.map λe=>(e.1,e.2.2.1,e.1-e.2.2.2.1)).filter λq=>!(q.1==a):=by rw[vS];rfl
   rw[e1,e2,al.lq]
  ·rw[y,Q,Ht,VJ];by_cases h:z=a
   ·rw[zC h,zC h];exact .inr rfl
   ·rw[zB h,zB h];exact al.dq z p
  ·have m:=g.i k j;have hs:=m.2.s;have F:=ZK (n:=k.2.2.1) O;omega
 | wrote j wd=>
  rw[E];rcases wd with⟨h,_⟩|⟨k,j,hin,h8,_⟩
  ·cases h
  ·have m:=g.i k j;obtain⟨V,S⟩:=hin;have p:a∈Qv k.2:=dN.jm m.2 V S h8;obtain⟨A,D,_⟩:=g.write hi j p (v:=d.va);refine⟨⟨A,al.n0,al.nl,al.lq,al.ok,al.dq,al.th⟩,O,λe W r=>D e W λh=>r ?_⟩;subst h;exact⟨by rw[m.1];exact V,by rw[m.1];exact S⟩
theorem AL.ready (al:AL H x ad la)(cf:j0 H):Qw H 0=0:=by
 have b:=al.th;unfold Qw;rw[zB O,Hy];have a:(if 0<=(0:Int)/\(0:Int)<(H.bQ.length:Int)then fH H (0:Int).toNat else none)=none:=by
  split
  ·exact al.g.ph _
  ·rfl
 rw[a];rfl
variable {Qa Ql:Rg}{addrs ls:Sl}
theorem k7.tK (o:k7 σ0 U xb L H held s0 P gb km fm x Qa Ql addrs ad ls la)(al:AL H x ad la):(la.length:Int)<=x.no:=by
 have:=congrArg List.length al.lq;rw[zl,zl]at this;rw[this];exact al.nl.1
set_option maxRecDepth 8000 in
theorem Jr (gl:Gl U)(gc:Gc U)(b b1 b2 b3 b4 b5:Int)(hd:jv U l ds)(most:Int)(hmost:most<=60){R:Option Addr->Hp->Prop}(h0:∀σ',aG U σ'->R none σ')
 (h1:∀σ' xb L H held s0 P gb km fm x Qa Ql addrs ad ls la,k7 U σ' xb L H held s0 P gb km fm x Qa Ql addrs ad ls la->AL H x ad la->x.no<=60->R (some ⟨xb,0,none⟩) σ'):XM.c b b1 b2 b3 b4 b5 l most U R:=by
 refine XM.o ?_;unfold XM.v;have hl:=hd.len;have hbig:=hd.yp;refine nw (cs:=[.int .i64 b,.int .i64 b1,.int .i64 b2,.int .i64 b3,.int .i64 b4,.int .i64 b5]) λv hz e A=>A.rI rfl (A.rI rfl (A.rI rfl (A.rI rfl (A.rI rfl (A.rI rfl (WK.o ?_))))));unfold WK.v;refine nw (cs:=[.int .i64 b,.int .i64 b1,.int .i64 b2,.int .i64 b3,.int .i64 b4,.int .i64 b5]) λv1 Y e1 M=>M.eZ rfl ?_;have G:=e.trans e1;have B:=e1.bT A id;refine KY (λr w=>v1=w/\(r=false->b1<=128/\(ds.length:Int)<=most)) (λr w ⟨hw,hr⟩=>?_) λJ hJ=>cP (λh=>hJ _ _ ⟨rfl,λh=>by cases h⟩) λh=>LC (hJ _ _ ⟨rfl,λh'=>by have:=vY h';exact⟨O,O⟩⟩);subst hw;refine cO (λht=>h0 v1 G) λhf=>?_;obtain⟨hpg,hlm⟩:=hr hf;refine B.rI rfl (B.rI rfl (B.rI rfl (B.rI rfl (B.rI rfl (B.rI rfl (Xw.o ?_))))));unfold Xw.v;refine nw (cs:=[.int .i64 b,.int .i64 b1,.int .i64 b2,.int .i64 b3,.int .i64 b4,.int .i64 b5]) λv1' af ae s=>?_;have y:=G.trans ae;refine s.rI rfl (s.rI rfl (s.rI rfl (s.rI rfl (s.rI rfl (s.rI rfl ?_)))));refine Mh (gl.bO y) (gc.bO y).gd b b1 b2 b3 b4 b5 (λv2 e2=>cC rfl (cC rfl (h0 v2 (y.trans e2)))) λv2 L0 N H0 e2 hsN hNv hh F=>cB rfl ?_;have ab:=y.trans e2;refine Dm ab hh.cut F.hi F.cf (by have:=F.pg;omega) (λb A=>⟨by have:=y.1;have:N<=b:=A.1;omega,A.2⟩) (CN gl gc.gd) λw gb km fm e3 hm p=>bW.intro (cB rfl (cB rfl ?_));refine nw (cs:=wj gb ⟨none,0,0⟩ ⟨none,0,0⟩) λw1 Y e4 X=>cB rfl ?_;have p4:=p.fr e4;have o4:k7 U w1 w.size L0 H0 [] (Vr H0.cf.aF) _ gb km fm om (λ_=>False) (λ_=>False) ⟨none,0,0⟩ [] ⟨none,0,0⟩ []:=
  ⟨p4,X,⟨rfl,.inl ⟨rfl,rfl⟩⟩,⟨rfl,.inl ⟨rfl,rfl⟩⟩,⟨p.e.1,λhM=>by have:=yE p hM;omega,id,id⟩,λb A=>A.elim,λb A=>A.elim,λb A=>A.elim⟩
 have Q:AL H0 om [] []:=⟨⟨by rw[F.live];rfl,λe W=>by simp[om]at W,λj=>by
  unfold fH;cases hj:H0.bQ[j]? with
  | none=>rfl
  | some g=>exact F.ph g (zG hj),λe W=>by simp[om]at W,by simp[om]⟩,by simp[om],by simp[om],rfl,λa K=>by simp at K,λa K=>by simp at K,F.th⟩
 refine Qc (a:=bN) (λ(z:Int) u=>∃(i:Nat) (L:dI) (H:Hw) (held:List Pc) (s0:Sp) (P:Rg) (x:Gu) (Qa Ql:Rg) (addrs:Sl) (ad:List Int) (ls:Sl) (la:List T3),z=i/\i<=ds.length/\k7 U u w.size L H held s0 P gb km fm x Qa Ql addrs ad ls la/\AL H x ad la/\x.no<=i) (λz _=>ds.length-z.toNat)
  ⟨0,L0,H0,_,_,_,om,_,_,_,[],_,[],rfl,O,o4,Q,by simp[om]⟩ ?_
 rintro(z:Int) u ⟨i,L,H,held,s0,P,x,Qa,Ql,addrs,ad,ls,la,rfl,hi,o,al,hno⟩;refine cP (λhlt=>?_) λhge=>?_
 ·have V:ds[i]?=some (ds[i]' O):=cU _;generalize (ds[i]' O)=d at V;have ac:=hd.i _ (zG V);refine hd.rd o.p.e V λba oa D=>fE (D _ o.p.e 0 _ rfl) (fE (D _ o.p.e 1 _ rfl) (fE (D _ o.p.e 2 _ rfl) (fE (D _ o.p.e 3 _ rfl) (fE (D _ o.p.e 4 _ rfl) (fE (D _ o.p.e 5 _ rfl) (fE (D _ o.p.e 6 _ rfl) (y6 (D _ o.p.e 7 _ rfl) ?_)))))));have n0:=al.n0;have nl:=al.nl;have hla:=o.tK al;refine Pw o gc al.g.i ⟨n0,O⟩ (by rw[al.g.cH o.p.hi];simp) O O d ac λer u2 L' H' E aa P' x' Qa' Ql' C S add del o' hLp out kp _=>?_;obtain⟨Z,hno',_⟩:=al.out o.p.hi o.p.cf out;exact cS (m:=i+1) O O ⟨⟨i+1,L',H',E,aa,P',x',Qa',Ql',C,_,S,_,rfl,O,o',Z,O⟩,O⟩
 ·exact h1 u w.size L H held s0 P gb km fm x Qa Ql addrs ad ls la o al O
end Go.Ar