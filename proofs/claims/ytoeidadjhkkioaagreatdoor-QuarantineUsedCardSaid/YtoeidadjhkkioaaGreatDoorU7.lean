/- Texts joined. -/
import Derived.Shelf.SlSortCmp.NoneTotal
import Derived.Ground.SlsfProg
import Derived.Test.YtoeidadjhkkioaaGreatDoorProg
import Derived.Shelf.SlIterI.Nil
import Derived.Ground.GgzProg
import Derived.Test.YtoeidadjhkkioaaGreatDoorU6
set_option linter.unusedVariables false
set_option linter.unusedSimpArgs false
namespace Go.Ar
open Go Go.Vc Go.Proofs
variable {U w:Hp}
def mZ:Nat->Int->Int->List T3
 | 0,_,_=>[]
 | n+1,s,w=>if s<512 then lh s w::mZ n (s+xW s w) w else[]
def allM (w:Int):List T3:=mZ 64 8 w++[lh 512 w]
def pI (l:List T3)(i:Nat):Bool:=i==l.length-1||(match l[i]?,l[i+1]? with
 | some x,some y=>x.2.1 != y.2.1||mF x != mF y
 | _,_=>false)
def lT (l:List T3)(n:Nat):List T3:=(List.range n).filterMap λi=>if pI l i then l[i]? else none
def ri (w:Int):List T3:=lT (allM w) (allM w).length
def uS (x:T3):Prop:=8<=x.1/\x.1<=512/\1<=x.2.1/\x.2.1<=4
theorem IA (s w:Int)(h1:8<=s)(h2:s<=512):uS (lh s w):=⟨h1,h2,On s w 4⟩
theorem tO {Q:Rg}{s:Sl}{l:List T3}{e1 e2:Nat}(ho:Go.Vc.Own Q U s 3 (lP l))(hQ:∀b,U.size<=b->Q b)(hl:l.length<=1000)(x:T3){K:Sl->Hp->Prop}(hK:∀s' σ',Ext Q U σ'->Go.Vc.Own Q σ' s' 3 (lP (l++[x]))->K s' σ') :
 Nw (.cells #[.int .i64 x.1,.int .i64 x.2.1,.int .i64 x.2.2] e1 (0,0)) U λn20 v3=>App s 3 24 e2 [.int .i64 0,.int .i64 0,.int .i64 0] ⟨some n20,1,1⟩ v3 K:=by
 have d:s.len=l.length:=by have:=ho.1;rw[Dw]at this;omega
 refine nw (cs:=v3 x) λv p e a=>?_;refine(ho.bP e).app (ys:=v3 x) (λb a=>hQ b O) rfl rfl ?_ (by simp[v3,dV]) ?_ ?_ nh λs' m _ i g _=>hK s' m ?_ ?_
 ·intro j u hu;rw[add_lit,zH,a.cell];exact hu
 ·simp only;have:(s.len+1)*24<=1001*24:=mu O O;omega
 ·simp only;omega
 ·exact(aF.to e).trans (i.sub λb a=>((ho.bP e).jB a).1)
 ·rw[Ry];exact g
theorem TZ (w:Int)(h:w<2\/16<w){R:Sl->Int->Hp->Prop}(hR:R ⟨none,0,0⟩ 1 U):Xg.c w U R:=by
 refine Xg.o ?_;unfold Xg.v;exact bX.intro (cP (λa=>cE rfl hR) λa=>cE (zI O) hR)
theorem Fg (w:Int)(hw1:2<=w)(hw2:w<=16){R:Sl->Int->Hp->Prop}(hR:∀s' σ',aF U σ'->iu σ' s' (ri w)->R s' 0 σ'):Xg.c w U R:=by
 refine Xg.o ?_;unfold Xg.v;refine bX.intro (fZ O (cD (zL O) ?_));refine UI (a:=.s) (bb:=bO) (λ(all:Sl) (s:Int) u=>∃(n:Nat) (done:List T3),8<=s/\s<=768/\aF U u/\Go.Vc.Own (λb=>U.size<=b) u all 3 (lP done)/\done++mZ n s w=mZ 64 8 w/\512<=s+8*(n:Int)/\(∀x∈done,uS x)/\done.length+n=64) (λ_ s _=>1000-s.toNat) ⟨64,[],O,O,Ext.refl _ _,Own.nil _ _ _,rfl,O,by simp,by simp⟩ ?_;rintro(all:Sl) (s:Int) u ⟨n,done,hs1,hs2,eu,ho,hdone,hn,hok,hlen⟩;refine cP (λY=>?_) λS=>?_
 ·obtain⟨n,rfl⟩:∃m,n=m+1:=⟨n-1,O⟩;refine I2 s w O O hw1 hw2 λv2 e2=>?_;refine tO (ho.bP e2) (λb F=>by have:=eu.1;have:=e2.1;omega) O (lh s w) λall1 v4 e4 h4=>?_;have e04:aF U v4:=Ext.dW (eu.trans e2) e4 λb F=>.inr F;refine WjP s w O O hw1 λd1 d2=>ar O O ⟨⟨n,done++[lh s w],O,O,e04,h4,?_,O,λx C=>?_,by simp;omega⟩,O⟩
  ·rw[←hdone,zl]
   congr 1
   conv=>rhs;rw[mZ,zC Y]
   rfl
  ·rcases zM.1 C with h1|h1
   ·exact hok x h1
   ·rw[zN]at h1;subst h1;exact IA s w O O
 ·have X:mZ n s w=[]:=by
   cases n with
   | zero=>rfl
   | succ n=>rw[mZ,zB S]
  rw[X,kE]at hdone;refine I2 512 w O O hw1 hw2 λv6 e6=>?_;refine tO (ho.bP e6) (λb F=>by have:=eu.1;have:=e6.1;omega) O (lh 512 w) λg v8 e8 L=>?_;have e08:aF U v8:=Ext.dW (eu.trans e6) e8 λb F=>.inr F;rw[hdone]at L;have A:∀x∈allM w,uS x:=λx C=>by
   rcases zM.1 C with h1|h1
   ·rw[←hdone]at h1;exact hok x h1
   ·rw[zN]at h1;subst h1;exact IA 512 w O O
  have hml:(allM w).length<=65:=by unfold allM;rw[←hdone];simp;omega
  have L:Go.Vc.Own (λb=>U.size<=b) v8 g 3 (lP (allM w)):=L;generalize hall:allM w=l at L A hml;have hmk:ri w=lT l l.length:=by unfold ri;rw[hall]
  have hl2:g.len=l.length:=by have:=L.1;rw[Dw]at this;omega
  refine UI (a:=.s) (bb:=bO) (λ(out:Sl) (z:Int) u=>∃i:Nat,z=(i:Int)/\i<=l.length/\aF v8 u/\Go.Vc.Own (λb=>v8.size<=b) u out 3 (lP (lT l i))/\(lT l i).length<=i) (λ_ z _=>l.length-z.toNat) ⟨0,rfl,O,Ext.refl _ _,Own.nil _ _ _,by simp[lT]⟩ ?_;rintro(out:Sl) (z:Int) u ⟨i,rfl,hi,eu8,hout,hol⟩;refine cP (λY=>?_) λS=>?_
  ·have hi':i<l.length:=by omega
   have C:l[i]?=some l[i]:=cW hi';generalize l[i]=x at C;have D:=A x (zG C);have j:lT l (i+1)=lT l i++(if pI l i then[x]else[]):=by
    unfold lT;rw[qQ,xP]
    congr 1
    by_cases hk:pI l i=true
    ·simp[hk,C]
    ·simp[hk]
   have hA:∀m,aF u m->iu m g l:=λm d=>Jb (L.bP (eu8.trans d));refine Bg (λr u'=>aF u u'/\r=pI l i) (λr u' ⟨p,hr⟩=>?_) λJ3 H=>?_
   ·have Q:=hout.bP p;cases hk:pI l i with
    | true=>
     rw[hk]at hr j;refine cE hr (AF (hA u' p) C ?_);refine tO Q (λb F=>by have:=eu8.1;have:=p.1;omega) O x λout1 v12 e12 h12=>?_;refine cT (m:=i+1) O O ⟨⟨i+1,rfl,O,Ext.dW (eu8.trans p) e12 λb F=>.inr F,?_,?_⟩,O⟩
     ·rw[j];exact h12
     ·rw[j];simp;omega
    | false=>
     rw[hk]at hr j;refine cD hr (cT (m:=i+1) O O ⟨⟨i+1,rfl,O,eu8.trans p,?_,?_⟩,O⟩)
     ·rw[j];simpa using Q
     ·rw[j];simp;omega
   ·refine⟨λm=>aF u m,Ext.refl _ _,ar O O ?_⟩;refine cO (λJ=>H _ _ ⟨Ext.refl _ _,?_⟩) λhnl=>?_
    ·have:i=l.length-1:=by simp only[zU]at J;omega
     unfold pI;rw[this];simp
    ·have hi2:i+1<l.length:=by simp only[mP]at hnl;omega
     have hy:l[i+1]?=some l[i+1]:=cW hi2;generalize l[i+1]=y at hy;have E:=A y (zG hy);have M:pI l i=(x.2.1 != y.2.1||mF x != mF y):=by
      unfold pI;rw[C,hy];have:(i==l.length-1)=false:=by simp only[mP];omega
      rw[this];rfl
     have P:=λ(m:Hp) (d:aF u m)=>(hA m d).2 i x.1 x.2.1 x.2.2 C;have hcy:=λ(m:Hp) (d:aF u m)=>(hA m d).2 (i+1) y.1 y.2.1 y.2.2 hy;obtain⟨b,o,Z,_,_⟩:=P u (Ext.refl _ _);have rx:∀m,aF u m->cell m ⟨b,o+i*3,none⟩=some (.int .i64 x.1)/\cell m ⟨b,o+i*3+1,none⟩=some (.int .i64 x.2.1)/\cell m ⟨b,o+i*3+2,none⟩=some (.int .i64 x.2.2):=λm d=>by
      obtain⟨b',o',B,_,h⟩:=P m d;rw[Z]at B;cases B;exact h
     have ry:∀m,aF u m->cell m ⟨b,o+(i+1)*3,none⟩=some (.int .i64 y.1)/\cell m ⟨b,o+(i+1)*3+1,none⟩=some (.int .i64 y.2.1)/\cell m ⟨b,o+(i+1)*3+2,none⟩=some (.int .i64 y.2.2):=λm d=>by
      obtain⟨b',o',B,_,h⟩:=hcy m d;rw[Z]at B;cases B;exact h
     have V:∀{K:Addr->Prop},K ⟨b,o+i*3,none⟩->Ix g.a g.len (i:Int) 3 K:=λhK=>by
      rw[Z];exact ix O O (by rw[add_lit,dH];exact hK)
     have N:∀{K:Addr->Prop},K ⟨b,o+(i+1)*3,none⟩->Ix g.a g.len ((i+1:Nat):Int) 3 K:=λhK=>by
      rw[Z];exact ix O O (by rw[add_lit,dH];exact hK)
     refine V ⟨x.2.1,λm d=>by rw[add_lit];exact(rx m d).2.1,cT (m:=i+1) O O (N ⟨y.2.1,λm d=>by rw[add_lit];exact(ry m d).2.1,?_⟩)⟩;refine cO (λhp=>H _ _ ⟨Ext.refl _ _,by rw[M,hp];rfl⟩) λhp=>?_;refine V ⟨x.1,λm d=>by rw[add_lit];exact(rx m d).1,⟨x.2.1,λm d=>by rw[add_lit];exact(rx m d).2.1,⟨x.2.2,λm d=>by rw[add_lit];exact(rx m d).2.2,?_⟩⟩⟩;refine cT (m:=i+1) O O (N ⟨y.1,λm d=>by rw[add_lit];exact(ry m d).1,⟨y.2.1,λm d=>by rw[add_lit];exact(ry m d).2.1,⟨y.2.2,λm d=>by rw[add_lit];exact(ry m d).2.2,?_⟩⟩⟩);refine JG x D.1 D.2.1 D.2.2.1 D.2.2.2 λv13 G=>⟨G,JG y E.1 E.2.1 E.2.2.1 E.2.2.2 λv14 W=>⟨G.trans W,H _ _ ⟨G.trans W,by rw[M,hp];rfl⟩⟩⟩
  ·have hil:i=l.length:=by omega
   subst hil;refine hR out u (e08.trans eu8) ?_;rw[hmk];exact Jb hout
theorem GR:∀w:Nat,2<=w->w<=16->QZ (ri (w:Int))=true:=by
 have h:((List.range 17).all λw=>decide (w<2)||QZ (ri (w:Int)))=true:=by decide +kernel
 intro w h1 h2;have:=kx.1 h w (ze.2 O);simp only[nB,zV]at this;exact this.resolve_left O
end Go.Ar
namespace Go.Proofs
open Go.Shelf
def Tryz.eZ:Go.Shelf.Ren:=⟨fun|6=>297|15=>160|14=>323|28=>224|29=>225|20=>344|21=>345|22=>346|23=>347|24=>348|25=>349|26=>350|27=>351|46=>357|47=>276|48=>277|49=>358|50=>359|57=>361|n=>n,fun|22=>141|24=>147|25=>369|3=>3|39=>230|0=>0|53=>311|55=>313|4=>4|46=>304|45=>303|50=>171|5=>5|9=>9|66=>353|70=>357|76=>383|77=>384|n=>n,fun|n=>n⟩
theorem Tryz.pq:Go.Proofs.SlLaysF0.n6 Tryz.prog Tryz.eZ:={
 mixed:=by kernel_rfl
 f6:=⟨Tryz.f297.name,by decide,Tryz.func297.trans (congrArg some (by kernel_rfl))⟩
 f14:=⟨Tryz.f323.name,by decide,Tryz.func323.trans (congrArg some (by kernel_rfl))⟩
 f15:=Tryz.func160.trans (congrArg some (by kernel_rfl))
 f20:=⟨Tryz.f344.name,by decide,Tryz.func344.trans (congrArg some (by kernel_rfl))⟩
 f21:=⟨Tryz.f345.name,by decide,Tryz.func345.trans (congrArg some (by kernel_rfl))⟩
 f22:=⟨Tryz.f346.name,by decide,Tryz.func346.trans (congrArg some (by kernel_rfl))⟩
 f23:=⟨Tryz.f347.name,by decide,Tryz.func347.trans (congrArg some (by kernel_rfl))⟩
 f24:=⟨Tryz.f348.name,by decide,Tryz.func348.trans (congrArg some (by kernel_rfl))⟩
 f25:=⟨Tryz.f349.name,by decide,Tryz.func349.trans (congrArg some (by kernel_rfl))⟩
 f26:=⟨Tryz.f350.name,by decide,Tryz.func350.trans (congrArg some (by kernel_rfl))⟩
 f27:=⟨Tryz.f351.name,by decide,Tryz.func351.trans (congrArg some (by kernel_rfl))⟩
 f28:=Tryz.func224.trans (congrArg some (by kernel_rfl))
 f29:=Tryz.func225.trans (congrArg some (by kernel_rfl))
 f46:=⟨Tryz.f357.name,by decide,Tryz.func357.trans (congrArg some (by kernel_rfl))⟩
 f47:=Tryz.func276.trans (congrArg some (by kernel_rfl))
 f48:=Tryz.func277.trans (congrArg some (by kernel_rfl))
 f49:=⟨Tryz.f358.name,by decide,Tryz.func358.trans (congrArg some (by kernel_rfl))⟩
 f50:=⟨Tryz.f359.name,by decide,Tryz.func359.trans (congrArg some (by kernel_rfl))⟩
 f57:=⟨Tryz.f361.name,by decide,Tryz.func361.trans (congrArg some (by kernel_rfl))⟩
 t0:=Tryz.underlying0
 a0:=Tryz.isAgg0
 z0:=Tryz.sizeOf0
 v0:=Tryz.zeroValue0
 t3:=Tryz.underlying3
 a3:=Tryz.isAgg3
 z3:=Tryz.sizeOf3
 v3:=Tryz.zeroValue3
 t4:=Tryz.underlying4
 a4:=Tryz.isAgg4
 z4:=Tryz.sizeOf4
 v4:=Tryz.zeroValue4
 t5:=Tryz.underlying5
 a5:=Tryz.isAgg5
 z5:=Tryz.sizeOf5
 v5:=Tryz.zeroValue5
 t9:=Tryz.underlying9
 a9:=Tryz.isAgg9
 z9:=Tryz.sizeOf9
 v9:=Tryz.zeroValue9
 t22:=Tryz.underlying141
 a22:=Tryz.isAgg141
 z22:=Tryz.sizeOf141
 v22:=Tryz.zeroValue141
 t25:=Tryz.underlying369
 a25:=Tryz.isAgg369
 z25:=Tryz.sizeOf369
 v25:=Tryz.zeroValue369
 t39:=Tryz.underlying230
 a39:=Tryz.isAgg230
 z39:=Tryz.sizeOf230
 v39:=Tryz.zeroValue230
 t45:=Tryz.underlying303
 a45:=Tryz.isAgg303
 z45:=Tryz.sizeOf303
 v45:=Tryz.zeroValue303
 t46:=Tryz.underlying304
 a46:=Tryz.isAgg304
 z46:=Tryz.sizeOf304
 v46:=Tryz.zeroValue304
 t50:=Tryz.underlying171
 a50:=Tryz.isAgg171
 z50:=Tryz.sizeOf171
 v50:=Tryz.zeroValue171
 t53:=Tryz.underlying311
 a53:=Tryz.isAgg311
 z53:=Tryz.sizeOf311
 v53:=Tryz.zeroValue311
 t55:=Tryz.underlying313
 a55:=Tryz.isAgg313
 z55:=Tryz.sizeOf313
 v55:=Tryz.zeroValue313
 t66:=Tryz.underlying353
 a66:=Tryz.isAgg353
 z66:=Tryz.sizeOf353
 v66:=Tryz.zeroValue353
 t70:=Tryz.underlying357
 a70:=Tryz.isAgg357
 z70:=Tryz.sizeOf357
 v70:=Tryz.zeroValue357
 t76:=Tryz.underlying383
 a76:=Tryz.isAgg383
 z76:=Tryz.sizeOf383
 v76:=Tryz.zeroValue383
 t77:=Tryz.underlying384
 a77:=Tryz.isAgg384
 z77:=Tryz.sizeOf384
 v77:=Tryz.zeroValue384}
end Go.Proofs
namespace Go.Ar
open Go Go.Vc Go.Proofs Go.RowKit Go.Sort Go.Shelf Go.Lib
abbrev ur:=Fin 64×Sl
instance:Inhabited ur:=⟨(0,⟨none,0,0⟩)⟩
def kS (x:ur):List Value:=[.int .i64 (x.1.val:Int),.slice x.2.a x.2.len x.2.cap]
def p8 (x y:ur):Int:=(x.1.val:Int)-(y.1.val:Int)
theorem Bp (x y:ur)(W:World):Calls Tryz.prog 298 #[.agg #[.int .i64 (x.1.val:Int),.slice x.2.a x.2.len x.2.cap],.agg #[.int .i64 (y.1.val:Int),.slice y.2.a y.2.len y.2.cap]] W λe w'=>e=.returned (.int .i64 (p8 x y))/\∃q os',w'=grow (W.drewN q) os':=by
 have b:IntKind.i64.wrap ((x.1.val:Int)-(y.1.val:Int))=p8 x y:=by
  have d:=x.1.isLt;have g:=y.1.isLt;unfold p8;exact Us O O
 go_enter Tryz.func298,Tryz.ntmps298
 go_wp2
 go_ret
 exact⟨rfl,0,_,by rw[alloc_eq_grow,alloc_eq_grow,grow_grow];rfl⟩
theorem BG:SWO (ltOf p8) where
 irrefl x:=by simp[ltOf,p8]
 trans x y z a h2:=by
  have a:=uU a;have h2:=uU h2;unfold p8 at a h2;exact zI (by unfold p8;omega)
 ntrans x y z a h2:=by
  have a:=AA a;have h2:=AA h2;unfold p8 at a h2;exact zL (by unfold p8;omega)
def uF (x:ur):Nat×Sl:=(x.1.val,x.2)
theorem Fl (l:List ur)(j:Nat)(hj:j<l.length*2):(fL (l.map uF))[j]?=some (flatK kS 2 l.toArray)[j]! := by
 rw[get_flatK _ _ _ _ (by simpa using hj)];have hi:j/2<l.length:=by omega
 have e1:l.toArray[j/2]! = l[j/2]:=by rw[getElem!_pos _ _ (by simpa using hi)];simp
 have a:(l.map uF)[j/2]?=some (uF l[j/2]):=by simp[hi]
 have:=SY a (d:=j%2) O;rw[show 2*(j/2)+j%2=j by omega]at this;rw[this,e1];have hd:j%2=0\/j%2=1:=by omega
 rcases hd with h|h<;>rw[h]<;>rfl
theorem F7:oz:=by
 intro U F s xs hrow hk hlen R hR;rintro w rfl;have Z:s.len=xs.length:=by have:=hrow.1;rw[Vl]at this;omega
 rcases hrow.2 with⟨h0,hc0⟩|⟨b,cs,hF,ha,hb,hle,hcl,ht⟩
 ·have J:xs=[]:=Dt.1 O;have:=AnyF.slices_SortFunc_none Tryz.pq s.a s.cap (.func (.func 298) #[] #[]) w;show Calls _ _ #[.slice s.a s.len s.cap,.func (.func 298) #[] #[]] w _;rw[h0];refine this.mono ?_;rintro e X ⟨rfl,rfl⟩;subst J;exact⟨.refl _,[],rfl,hR [] _ (.refl _) List.Pairwise.nil (Ext.refl _ _) hrow⟩
 ·have K:∀x∈xs,x.1<64:=hk
  let toK:Nat×Sl->ur:=λx=>(Fin.ofNat 64 x.1,x.2)
  have r:(xs.map toK).map uF=xs:=by
   rw[lO]
   conv=>rhs;rw[←wj xs]
   apply ku;intro x hx;simp only[Function.comp,toK,uF,Fin.ofNat,id];rw[vt (K x hx)]
  have L:(xs.map toK).length=xs.length:=by simp
  generalize xs.map toK=l at r L;have C:=hb.lt;have hH:HoldsK kS 2 w b 0 l.toArray:=by
   intro j hj;simp only[size_flatK,yW]at hj;have hc:Vc.cell w.heap ⟨b,0+j,none⟩=some (flatK kS 2 l.toArray)[j]! := by
    rw[hb.cell,zH,←Fl l j hj,r];rw[←ht,zm,zC (by rw[Vl];omega)]
   exact⟨hc,hb.oI⟩
  have Y:∀args w,(callFunc 298 args).run Tryz.prog w=.ok (.enter 298 args) w:=enters_of Tryz.func298 (by kernel_rfl) rfl;have A:∀w,(isAgg (Tryz.eZ.t 24)).run Tryz.prog w=.ok true w:=λw=>by
   have h:=Vy (P:=Tryz.prog) (t:=Tryz.eZ.t 24) (d:=(Tryz.prog.underlying (Tryz.eZ.t 24)).getD .bool) (by kernel_rfl) w
   rwa [show UO ((Tryz.prog.underlying (Tryz.eZ.t 24)).getD .bool)=true by kernel_rfl]at h
  have M:∀w,(Go.sizeOf (Tryz.eZ.t 24)).run Tryz.prog w=.ok 2 w:=λw=>by
   have h:=Ko (P:=Tryz.prog) (t:=Tryz.eZ.t 24) (by kernel_rfl) w
   rwa [show Tryz.prog.cellsOf (Tryz.eZ.t 24)=2 by kernel_rfl]at h
  have z:=AnyQ.slices_SortFunc Tryz.pq 2 A M kS (λ_=>rfl) (λx v Q=>by simp only[kS,zW,AZ,or_false]at Q;rcases Q with rfl|rfl<;>rfl) p8 BG 298 #[] b 0 s.cap l.toArray w Y (λ_ _ _ _ x y=>Bp x y _) hH C (by simp only[yW];omega)
  show Calls _ _ #[.slice s.a s.len s.cap,.func (.func 298) #[] #[]] w _;rw[ha,show s.len=l.toArray.size by simp only[yW];omega];refine z.mono ?_;rintro e X ⟨rfl,d',n,os,S,G,rfl⟩;have g:d'.size=l.length:=by simpa using S.1
  have u:d'.toList.Perm l:=by
   have E:=S.2.2;rw[show l.toArray.size=d'.size by simp[g]]at E;have e1:(d'.extract 0 d'.size)=d':=by simp
   have e2:(l.toArray.extract 0 d'.size)=l.toArray:=by rw[g];simp
   rw[e1,e2]at E;simpa using E
  obtain⟨W,N⟩:=hb;have m:(sortWorldK kS 2 w b 0 n d' os).heap=(w.heap.modify b (onCells (putCells id 0 (flatK kS 2 d'))))++os:=rfl;have p:(w.heap.modify b (onCells (putCells id 0 (flatK kS 2 d')))).size=w.heap.size:=by simp
  refine⟨⟨rfl,rfl,rfl,by rw[m,Array.size_append,p];omega⟩,[],rfl,?_⟩;rw[m];have B:Ext F w.heap ((w.heap.modify b (onCells (putCells id 0 (flatK kS 2 d'))))++os):=by
   refine⟨by rw[Array.size_append,p];omega,λq V hf=>?_⟩;rw[ya (by rw[p];exact V),Ba,zB λ(e:b=q)=>hf (by rw[←e];exact hF)]
  refine hR (d'.toList.map uF) _ ?_ ?_ B ⟨?_,.inr ⟨b,(putCells id 0 (flatK kS 2 d') cs.toArray).toList,hF,ha,⟨W,?_⟩,hle,?_,?_⟩⟩
  ·rw[←r];exact u.map _
  ·rw[rp];rw[mC];intro i j hi hj hij;have D:=G i j O hij (by simp only[xI]at hj;simp only[yW];omega);rw[getElem!_pos d' i (by simpa using hi),getElem!_pos d' j (by simpa using hj)]at D;have D:=AA D;unfold p8 at D;simp only[uF,Array.getElem_toList];omega
  ·rw[Vl,zk,xI,g];omega
  ·rw[ya (by rw[p];exact C),Ba,zC rfl,N];simp[onCells]
  ·simp[putCells,hcl]
  ·rw[Vl,zk,xI,g];apply zt;intro j;rw[zm];by_cases hj:j<l.length*2
   ·rw[zC hj,Fl d'.toList j (by simpa[g]using hj)];have H:j<cs.length:=by
     have:l.length*2<=s.cap*2:=mD _ O;omega
    simp only[putCells,y8,Array.getElem?_mapIdx,List.getElem?_toArray,cW H,zg];rw[zC ⟨O,by rw[size_flatK,g];omega⟩];simp
   ·rw[zB hj,zX (by rw[Vl,zk,xI,g];omega)]
end Go.Ar
namespace Go.Proofs
open Go.Vc
set_option maxRecDepth 100000
def X8.h:Hn:=.q .o1 (.q .o5 .l)
def X8.v (a:Sl)(b:Int)(c:Hp)(d:aO):Prop:=d (decide (((a.len:Nat):Int)>b)) c
theorem X8.o {a b c d}(e:X8.v a b c d):X8.c a b c d:=Wa Tryz.func14 (x:=X8.h) (R0 e)
def Zf.h:Hn:=.q .o2 (.q (.q (.cU (.seq [.op,.op,.op,.op,.cX false 3 (RI.ops 3)])) (.c (.q .o3 .l) .l)) (.q (.oq 12) .l))
def Zf.v (a:Sl)(b c d e f g h:Int)(i:ByteArray)(j:Hp)(k:aN):Prop:=aV #[.I b,.I c,.I d,.I e,.I f,.I g,.I h,.string i] 40 j λl m=>aQ l 4 m λn=>bX (λo p=>If o (aQ l 5 p λq=>k q p) (aQ l 4 p λr=>Nz ((a.len:Nat):Int) <| Ix a.a a.len (r.tmod ((a.len:Nat):Int)) 1 λs=>bN s p λt=>aQ l 5 p λu=>bM (t+u) λv=>k v p)) λw=>If (n<0) (w true m) (w (((a.len:Nat):Int)==0) m)
theorem Zf.o {a b c d e f g h i j k}(l:Zf.v a b c d e f g h i j k):Zf.c a b c d e f g h i j k:=Wa Tryz.func25 (x:=Zf.h) (R0 l)
def XO.h:Hn:=.q .o1 (.q .o4 .l)
def XO.v (a:Hp)(b:Option Addr->Hp->Prop):Prop:=WM.c 8 64 1 1 1024 2 a λc d=>b c d
theorem XO.o {a b}(c:XO.v a b):XO.c a b:=Wa Tryz.func39 (x:=XO.h) (R0 c)
def Xa.h:Hn:=.q .o2 (.q .o5 .l)
def Xa.v (a b c d e f:Int)(g:Hp)(h:aO):Prop:=aV #[.I a,.I b,.I c,.I d,.I e,.I f] 25 g λi j=>bN ((i.add 1).add 0) j λk=>h (decide (k>128)) j
theorem Xa.o {a b c d e f g h}(i:Xa.v a b c d e f g h):Xa.c a b c d e f g h:=Wa Tryz.func52 (x:=Xa.h) (R0 i)
def WM.h:Hn:=.q .o2 (.q .o8 (.q .o9 (.q (.q .o2 .aK) .aL)))
def WM.v (a b c d e f:Int)(g:Hp)(h:Option Addr->Hp->Prop):Prop:=aV #[.I a,.I b,.I c,.I d,.I e,.I f] 25 g λi j=>aQ i 0 j λk=>Xg.c k j λl m n=>bN ((i.add 1).add 0) n λo=>bN ((i.add 1).add 1) n λp=>bN ((i.add 1).add 2) n λq=>bN ((i.add 1).add 3) n λr=>bN ((i.add 1).add 4) n λs=>Vj.c l o p q r s n λt u v=>If (u != 0) (h none v) (h t v)
theorem WM.o {a b c d e f g h}(i:WM.v a b c d e f g h):WM.c a b c d e f g h:=Wa Tryz.func53 (x:=WM.h) (R0 i)
end Go.Proofs
namespace Go.Ar
open Go Go.Vc Go.Proofs
variable {U w w':Hp}{F P Q:Rg}{L:dE}{H H':Hw}{held:List Pc}{s0:Sp}{t n:Nat}{g:Th}
structure eW where
 kd:Int
 th:Int
 a:Int
 b:Int
 of:Int
 pl:Int
 va:Int
 s:ByteArray
def vd (d:eW):List Value:=[.int .i64 d.kd,.int .i64 d.th,.int .i64 d.a,.int .i64 d.b,.int .i64 d.of,.int .i64 d.pl,.int .i64 d.va,.string d.s]
def jx (x:Int):Prop:=-9223372036854775808<=x/\x<=9223372036854775807
structure kU (d:eW):Prop where
 a:jx d.a
 b:jx d.b
 pl:jx d.pl
 va:jx d.va
structure jF (U:Hp) (sl:Sl) (ds:List eW):Prop where
 len:sl.len=ds.length
 at_:∀(i:Nat) (d:eW),ds[i]?=some d->∃b o,sl.a=some ⟨b,o,none⟩/\b<U.size/\∀(j:Nat) v,(vd d)[j]?=some v->cell U ⟨b,o+i*8+j,none⟩=some v
 i:∀d∈ds,kU d
 y5:ds.length<=9223372036854775807
theorem jF.bP {sl:Sl}{ds:List eW}(h:jF U sl ds)(e:aF U w):jF w sl ds:=⟨h.len,λi d p=>by
 obtain⟨b,o,a,r,g⟩:=h.at_ i d p;exact⟨b,o,a,by have:=e.1;omega,λj v m=>by rw[KX e r id];exact g j v m⟩,h.i,h.y5⟩
theorem jF.rd {sl:Sl}{ds:List eW}(h:jF U sl ds)(e:aF U w){i:Nat}{d:eW}(hx:ds[i]?=some d){K:Addr->Prop}(hK:∀b o,(∀w',aF U w'->∀(j:Nat) v,(vd d)[j]?=some v->cell w' ⟨b,o+j,none⟩=some v)->K ⟨b,o,none⟩):Ix sl.a sl.len (i:Int) 8 K:=by
 obtain⟨b,o,m,u,p⟩:=h.at_ i d hx;have x:=(cY.1 hx).1;have g:=h.len;rw[m];refine ix O O ?_;rw[add_lit,dH];exact hK b _ λw' s j v r=>by rw[KX s u id];exact p j v r
theorem B1 {b o i:Nat}{h:Hp}{x:ByteArray}{K:ByteArray->Prop}(hc:cell h ⟨b,o+i,none⟩=some (.string x))(hK:K x):yv (Addr.add ⟨b,o,none⟩ i) h K:=⟨x,by rw[add_lit];exact hc,hK⟩
theorem _root_.Go.Vc.bY.rT {b o i:Nat}{cs:List Value}(hb:bY U b cs){x:ByteArray}{K:ByteArray->Prop}(hc:cs[o+i]?=some (.string x))(hK:K x):yv (Addr.add ⟨b,o,none⟩ i) U K:=⟨x,by rw[add_lit,hb.cell];exact hc,hK⟩
def tH (ad:List Int)(d:eW):Int:=if d.of<0\/ad=[]then d.pl else IntKind.i64.wrap (ad.getD (d.of.toNat%ad.length) 0+d.pl)
theorem Ra {ad:List Int}{d:eW}(h:kU d):jx (tH ad d):=by
 unfold tH;split
 ·exact h.pl
 ·exact SX _
theorem Oe {addrs:Sl}{ad:List Int}(hs:cV addrs 1 (Wy ad) U F)(d:eW){R:aN}(hR:∀σ',aF U σ'->R (tH ad d) σ'):Zf.c addrs d.kd d.th d.a d.b d.of d.pl d.va d.s U R:=by
 refine Zf.o ?_;unfold Zf.v;have A:addrs.len=ad.length:=by have:=hs.1;simp[Wy]at this;omega
 refine nw (cs:=vd d) λv D e j=>j.rI rfl (KD (λr w=>w=v/\r=decide (d.of<0\/ad=[])) (λr w ⟨B,x⟩=>?_) λJ y=>cP (λm=>y _ _ ⟨rfl,by rw[zI (.inl m)]⟩) λm=>y _ _ ⟨rfl,?_⟩)
 ·subst B;have g:=hR w e;by_cases hc:d.of<0\/ad=[]
  ·refine cE (by rw[x];exact zI hc) (j.rI rfl ?_);unfold tH at g;rw[zC hc]at g;exact g
  ·have i:0<ad.length:=oa.2 λh=>hc (.inr h);refine cD (by rw[x];exact zL hc) (j.rI rfl (nz O ?_));have u:0<=d.of:=by omega
   have C:d.of.tmod (addrs.len:Int)=((d.of.toNat%ad.length:Nat):Int):=by
    rw[Q1 u,A,Int.natCast_emod,Int.toNat_of_nonneg u]
   rw[C];have p:d.of.toNat%ad.length<ad.length:=vT _ i;have z:ad[d.of.toNat%ad.length]?=some ad[d.of.toNat%ad.length]:=cW p;refine(cV.loc _ _ _ |>.bP (aH.cut hs) e).lL z (j.rI rfl (vI ?_));unfold tH at g;rw[zB hc,zQ,z]at g;exact g
 ·rw[A];rw[kW];simp only[zU,zV];constructor
  ·intro h;exact .inr (Dt.1 O)
  ·rintro(h|h)
   ·exact(m h).elim
   ·rw[h];rfl
theorem NR {l:Sl}{most:Int}{R:aO}(hR:R (decide ((l.len:Int)>most)) U):X8.c l most U R:=by
 refine X8.o ?_;unfold X8.v;exact hR
theorem τ {xs:List (Int×Int×Int)}(h:QZ xs=true):(xs.map QI).map mS=xs:=by
 rw[lO]
 conv=>rhs;rw[←wj xs]
 apply ku;intro t ht;obtain⟨i,hi⟩:=zP ht;have:=((QU xs).1 h).2.2.1 i t hi;obtain⟨c,_,a,b,d,g⟩:=Bc this;simp only[Function.comp,id];rw[show QI t=c from a];unfold mS;rw[←b,←d,←g]
theorem RF {xs:List (Int×Int×Int)}(h:QZ xs=true):(xs.map QI).length<=40/\∀c∈xs.map QI,c.ok:=by
 refine⟨by have:=((QU xs).1 h).2.1;simpa using this,λc g=>?_⟩;obtain⟨t,d,rfl⟩:=zE.1 g;obtain⟨i,hi⟩:=zP d;have:=((QU xs).1 h).2.2.1 i t hi;obtain⟨c,a,b,_⟩:=Bc this;rw[show QI t=c from b];exact a
structure uy (H:Hw) (aG:Int):Prop where
 hi:HI H [] (V6 H.cf.aG)
 cf:iT H
 pg:(H.cf.aG:Int)=aG
 live:H.live=[]
 ph:∀g∈H.bR,g.ph=none
 th:1<=H.cf.threads
theorem Jc {xs:List (Int×Int×Int)}{p a t b r:Int}(h:QZ xs=true)(hc:sW p a t b r=true):uy (Uw (xs.map QI) ⟨p.toNat,a.toNat,t.toNat,b.toNat,r.toNat⟩) p:=by
 obtain⟨⟨q1,q2,q3⟩,⟨q4,u⟩,⟨m,s⟩,_⟩:=(Ff p a t b r).1 hc;obtain⟨d,i⟩:=RF h;refine⟨Rb (cf:=⟨p.toNat,a.toNat,t.toNat,b.toNat,r.toNat⟩) aC aC aC aC d i,⟨by simp only[Uw];omega,by simp[Uw],?_⟩,by simp only[Uw];omega,rfl,λg j=>by rw[Dq j],by simp only[Uw];omega⟩;show QZ ((xs.map QI).map mS)=true;rw[τ h];exact h
theorem Pa (g:Gl U)(gd:Gd U)(b b1 b2 b3 b4 b5:Int){R:Option Addr->Hp->Prop}(h0:∀σ',aF U σ'->R none σ')
 (h1:∀σ' L N H,aF U σ'->U.size<=N->N<=σ'.size->HH σ' (λb=>N<=b) L H->uy H b1->R (some ⟨L.p,0,none⟩) σ'):WM.c b b1 b2 b3 b4 b5 U R:=by
 refine WM.o ?_;unfold WM.v;refine nw (cs:=[.int .i64 b,.int .i64 b1,.int .i64 b2,.int .i64 b3,.int .i64 b4,.int .i64 b5]) λv E e j=>j.rI rfl ?_;by_cases hw:2<=b/\b<=16
 ·refine Fg b hw.1 hw.2 λs D e1 w=>?_;have a:=e1.bV j id;have d:=e.trans e1;have m:QZ (ri b)=true:=by
   have:=GR b.toNat O O;rw[show((b.toNat:Nat):Int)=b by omega]at this;exact this
  refine a.fD rfl (a.fD rfl (a.fD rfl (a.fD rfl (a.fD rfl ?_))));refine BP w (g.bP d) (gd.bP d) b1 b2 b3 b4 b5 (λu=>by rw[m]at u;cases u) (λ_ A r e2=>?_) λ_ A r L e2 C=>?_
  ·exact cE rfl (h0 r (d.trans e2))
  ·exact cD rfl (h1 r L D.size _ (d.trans e2) d.1 e2.1 C (Jc m A))
 ·refine TZ b O (j.fD rfl (j.fD rfl (j.fD rfl (j.fD rfl (j.fD rfl ?_)))));have w:iu v ⟨none,0,0⟩ []:=⟨rfl,λi x y z B=>by simp at B⟩;refine BP w (g.bP e) (gd.bP e) b1 b2 b3 b4 b5 (λ_ r e2=>cE rfl (h0 r (e.trans e2))) (λm=>?_) λm=>?_
  ·exact absurd m aB
  ·exact absurd m aB
def Safe (H:Hw)(d:eW)(x:Int)(e:Int×Bk):Prop:=(∀j,fE H j≠some (.find e.1))/\¬((d.kd=3\/d.kd=1\/d.kd=6)/\e.1<=x/\x<e.1+e.2.2.1)
structure nM (H:Hw) (d:eW) (x:Int) (H':Hw):Prop where
 hi:∃held s0,HI H' held s0
 kp:Q2 H' H
 fx:∀e∈H.live,Safe H d x e->e∈H'.live/\(∀w:Nat,e.1<=((8*w:Nat):Int)->((8*w:Nat):Int)<e.1+e.2.2.1->H'.sp.wd w=H.sp.wd w)/\∀j,fE H' j≠some (.find e.1)
theorem nM.same (h:HI H held s0)(d:eW)(x:Int):nM H d x H:=⟨⟨_,_,h⟩,Q2.refl _,λe b a=>⟨b,λ_ _ _=>rfl,a.1⟩⟩
theorem nM.op (h:HI H held s0){d:eW}{x:Int}(o:fS H H')(hl:∀e∈H.live,Safe H d x e->e∈H'.live):nM H d x H':=
 ⟨o.hi,o.kp,λe b a=>⟨hl e b a,h.kl o.ks e b,λj=>by rw[o.ph];exact a.1 j⟩⟩
theorem nM.ar {d:eW}{x:Int}(o:m5 H H'):nM H d x H':=
 ⟨o.hi,o.kp,λe a b=>⟨by rw[o.live];exact a,o.kl e a,λj=>by unfold fE;rw[o.bR];exact b.1 j⟩⟩
theorem HI.pn (h:HI H held s0){e:Int×Bk}(he:e∈H.live):8<=e.2.2.1/\0<=e.1/\e.1%8=0/\e.2.2.1%8=0/\e.1+e.2.2.1<=270000:=by
 obtain⟨_,p,d,E,F,B,G,_⟩:=h.lv e he;have D:=h.Aq.size_pos d;have z:=h.Aq.jV d;obtain⟨A,w,hd⟩:=h.Aq.hf p d;have J:p.addr%8=0:=by
  rcases hd with⟨_,_,r,hr,c2,c3⟩|⟨j,c,c1,c2,c3,c4,_⟩
  ·omega
  ·obtain⟨a,x,b,y⟩:=c4;have:a=c:=Option.some.inj (b.1.symm.trans c2);subst this;have m:=(h.Aq.ga _ A w).cG j a x b;obtain⟨l,s,i,C,hi,e,_⟩:=(Uk m).1 y;have g:=m.ok;unfold cA.ok at g;unfold at_ at e;have u:a.size=8*(a.size/8):=by omega
   have:i*a.size=8*(i*(a.size/8)):=by rw[Nat.mul_left_comm,←u]
   omega
 omega
theorem nM.write (h:HI H held s0){d:eW}{x:Int}(hd:d.kd=3)(v:Int):nM H d x {H with sp:=Zm H.sp x v}:=by
 refine⟨⟨_,_,h.write x v⟩,⟨rfl,rfl,rfl,rfl⟩,λe b a=>⟨b,λw g m=>?_,a.1⟩⟩;have i:=h.pn b;rw[(Eg H.sp x v).2.2,zB];rintro⟨h0,hw⟩;have j:=J0 h0;exact a.2 ⟨.inl hd,O,O⟩
theorem nM.free (h:HI H held s0){d:eW}{x thread e:Int}(hd:d.kd=1)(o:fS H H')(hf:nU H thread x H' e):nM H d x H':=by
 refine nM.op h o λj a g=>?_;have i:=h.pn a;rcases hf with⟨_,h2,_⟩|⟨_,_,_,h4⟩|⟨_,b,_,_,h4⟩
 ·rw[h2];exact a
 ·rw[h4];exact a
 ·rw[h4];refine yV.2 ⟨a,λm=>g.2 ⟨.inr (.inl hd),O,O⟩⟩
theorem nM.step (h:HI H held s0){d:eW}{x:Int}(hg:H.bR[t]?=some g){p:Ph}(hp:g.ph=some p):nM H d x (Ke H t p):=by
 have K:=(cY.1 hg).1;have s:=h.P4 hg hp;have B:fE H t=some p:=by unfold fE;rw[hg];exact hp
 have live:∀e∈H.live,p≠.find e.1->e∈(Ke H t p).live:=λe i D=>by
  by_cases hf:lK p
  ·obtain⟨_,_,_,G,r⟩:=rU h hg hp hf;by_cases u:∃y,p=.find y
   ·obtain⟨y,rfl⟩:=u;cases hm:bU H.live y with
    | none=>rw[((r y rfl).1 hm).2.2];exact i
    | some b=>
     rw[((r y rfl).2 b hm).2];exact yV.2 ⟨i,λa=>D (by rw[a])⟩
   ·rw[(G λy a=>u ⟨y,a⟩).2];exact i
  ·obtain⟨cl,J,A⟩:=BN h hg hp hf;obtain⟨_,m⟩:=rW h hg hp A;rcases m with⟨_,_,_,e2,_⟩|⟨_,_,_,e4⟩|⟨_,_,e3,e4⟩
   ·rw[e2];exact i
   ·rw[e4];exact i
   ·rw[e4];exact(A6 e3).2 (.inl i)
 have E:∀y,(WH H t p).2.1≠some (.find y):=λy a=>by
  by_cases hf:lK p
  ·obtain⟨_,_,m,_⟩:=rU h hg hp hf;rcases m with⟨p',z,e1,_,e3,_⟩|e1
   ·rw[e1]at a;exact e3 y (Option.some.inj a)
   ·rw[e1]at a;cases a
  ·obtain⟨cl,J,A⟩:=BN h hg hp hf;obtain⟨_,m⟩:=rW h hg hp A;rcases m with⟨p',z,e1,_,_,e4,_⟩|⟨e1,_⟩|⟨e1,_⟩
   ·rw[e1]at a;cases a;exact e4.elim
   ·rw[e1]at a;cases a
   ·rw[e1]at a;cases a
 refine⟨s.hi,U8 H t p,λe i F=>⟨live e i λu=>F.1 t (by rw[B,u]),h.kl s.ks e i,λj=>?_⟩⟩;by_cases hj:j=t
 ·subst hj;obtain⟨z,C,w⟩:=H7 (p:=p) K;unfold fE;rw[C];show z.ph≠_;rw[w];exact E _
 ·unfold fE;rw[U1 p hj];exact F.1 j
end Go.Ar
namespace Go.Ar
open Go Go.Vc Go.Proofs
variable {U w w':Hp}{F P Q X:Rg}{L:dE}{H H':Hw}{held:List Pc}{s0:Sp}{t n:Nat}{g:Th}
structure gg (σ0 U:Hp) (L:dE) (H:Hw) (held:List Pc) (s0:Sp) (P Q:Rg) (addrs:Sl) (ad:List Int):Prop where
 e:aF σ0 U
 h:HH U P L H
 hi:HI H held s0
 cf:iT H
 pg:H.cf.aG<=128
 pP:∀b,P b->σ0.size<=b/\b<U.size
 pQ:∀b,Q b->σ0.size<=b/\b<U.size/\¬P b
 row:bT addrs 1 (Wy ad) U Q
 al:ad.length<=60
 g0:jd (λb=>σ0.size<=b)/\¬σ0.size<=1
variable {σ0:Hp}{addrs:Sl}{ad:List Int}
theorem gg.step (p:gg σ0 U L H held s0 P Q addrs ad){ts':List eR}(e:Ext P U w)(h':HH w (Grow P U) {L with ts:=ts'} H'){held':List Pc}{s0':Sp}(hi':HI H' held' s0')(k:Q2 H' H) :
 gg σ0 w {L with ts:=ts'} H' held' s0' (Cut (Grow P U) w) Q addrs ad:=by
 have j:=e.1;refine⟨Ext.dW p.e e λb a=>.inr (p.pP b a).1,h'.cut,hi',p.cf.bS k,by rw[k.2.1];exact p.pg,λb a=>⟨?_,a.2⟩,λb a=>?_,aI.bS p.row e λb _ g d=>(p.pQ b g).2.2 d,p.al,p.g0⟩
 ·have:=p.e.1;rcases a.1 with h1|h1
  ·exact(p.pP b h1).1
  ·omega
 ·obtain⟨q1,q2,q3⟩:=p.pQ b a;exact⟨q1,O,λi=>by
   rcases i.1 with h1|h1
   ·exact q3 h1
   ·omega⟩
theorem gg.fr (p:gg σ0 U L H held s0 P Q addrs ad)(e:aF U w):gg σ0 w L H held s0 P Q addrs ad:=
 ⟨p.e.trans e,p.h.bP e,p.hi,p.cf,p.pg,λb a=>⟨(p.pP b a).1,by have:=(p.pP b a).2;have:=e.1;omega⟩,λb a=>⟨(p.pQ b a).1,by have:=(p.pQ b a).2.1;have:=e.1;omega,(p.pQ b a).2.2⟩,aI.bP p.row e,p.al,p.g0⟩
theorem gg.out (p:gg σ0 U L H held s0 P Q addrs ad){T:Rg}(e:Ext T U w)(hT:∀b,b<U.size->T b->¬P b/\¬Q b/\σ0.size<=b):gg σ0 w L H held s0 P Q addrs ad:=by
 have r:=e.1;have g:Ext (λb=>T b/\b<U.size) U w:=⟨e.1,λb a j=>e.2 b a λd=>j ⟨d,a⟩⟩;refine⟨Ext.dW p.e g λb a=>.inr (hT b a.2 a.1).2.2,p.h.bS g (λb a i d=>(hT b a d.1).1 i) (λb a=>?_) (λa=>?_),p.hi,p.cf,p.pg,λb a=>⟨(p.pP b a).1,by have:=(p.pP b a).2;omega⟩,λb a=>⟨(p.pQ b a).1,by have:=(p.pQ b a).2.1;omega,(p.pQ b a).2.2⟩,aI.bS p.row g λb a m d=>(hT b a d.1).2.1 m,p.al,p.g0⟩
 ·exact p.g0.1 b (hT b a.2 a.1).2.2
 ·exact p.g0.2 (hT _ a.2 a.1).2.2
theorem xC (hr:bT addrs 1 (Wy ad) U Q)(hl:ad.length<=1000000)(x:Int){e t:Nat}{K:Sl->Hp->Prop}(hK:∀s' w,Ext Q U w->bT s' 1 (Wy (ad++[x])) w (λb=>Q b\/U.size<=b/\b<w.size)->K s' w) :
 Nw (.cells #[.int .i64 x] t (0,0)) U λn v=>App addrs 1 8 e [.int .i64 0] ⟨some n,1,1⟩ v K:=by
 have j:addrs.len=ad.length:=by have:=hr.1;simp[Wy]at this;omega
 refine bT.push (F:=λb=>Q b\/U.size<=b) (vs:=[.int .i64 x]) (aI.mono hr λb _ a=>.inl a) (λb a=>.inr a) rfl rfl (by simp[dV]) O O λs' w i g m=>hK s' w ⟨g.1,λb a p=>g.2 b a λd=>d.elim p λd=>O⟩ ?_;have:Wy (ad++[x])=Wy ad++[.int .i64 x]:=by simp[Wy]
 rw[this];refine aI.mono (aI.cut m) λb a d=>?_;rcases d.1 with h1|h1
 ·exact .inl h1
 ·exact .inr ⟨h1,a⟩
end Go.Ar
namespace Go.Ar
open Go.Vc (bU dA cN)
def i63 (x:Int):Bool:=decide (x<=9223372036854775807)
def qu (H:Hw)(t:Nat):Ph->Bool
 | .take k=>decide (k<H.tb.length)&&(match KM (H.cls k) ((H.ka t).li k)with
  | (some y,_)=>i63 y
  | (none,_)=>true)
 | .cJ k _=>decide (k<H.tb.length)&&(QF (H.eL t) (k:Int) != 0 || !(YR (H.eL t) (k:Int)).isEmpty)
 | .cL _ _=>true
 | .grow _ _=>true
 | .fill=>match (H.ka t).bQ with
  | (k,x::xs)::_=>decide (k<H.tb.length)&&(i63 x&&decide (((H.ka t).li k).os.length+xs.length<=256))
  | _=>false
 | .eP m=>decide (QE (H.eL t) H.sp (m:Int) 1<=1000000)
 | .find x=>i63 x&&((bU H.live x).isSome&&decide (0<=x))
 | .put k _=>decide (k<H.tb.length) && !(H.ka t).bQ.isEmpty
 | .back=>match (H.ka t).bQ with
  | (_,xs)::_=>(xs.all λx=>i63 x&&decide (0<=Yh H.bZ x))&&decide (xs.length<=1000000)
  | _=>false
 | .dG _ a=>decide (0<=a)&&(decide (a.toNat<H.bZ.length)&&H.bZ.all λA=>A.runs.all λr=>decide (r.1<=1000000))
 | .drain=>true
theorem AO {x:Int}(h:i63 x=true):iN x:=by
 unfold i63 at h;unfold iN;exact uU h
theorem Ro {H:Hw}{t:Nat}{p:Ph}(h:qu H t p=true):vp H t p:=by
 cases p with
 | take k=>
  simp only[qu,zF,zV]at h;refine⟨h.1,λy l z=>?_⟩;have g:=h.2;rw[z]at g;exact AO g
 | cJ k w=>
  simp only[qu,zF,zV,nB]at h;refine⟨h.1,λu d=>?_⟩;rw[u,d]at h;simp at h
 | cL k w=>trivial
 | grow k w=>trivial
 | fill=>
  simp only[qu]at h;split at h
  ·rename_i k x xs r hh;simp only[zF,zV]at h;exact⟨k,x,xs,r,hh,h.1,AO h.2.1,h.2.2⟩
  ·cases h
 | eP m=>
  simp only[qu,zV]at h;exact h
 | find x=>
  simp only[qu,zF,zV]at h;exact⟨AO h.1,λj=>by rw[j]at h;simp at h,λb _=>h.2.2⟩
 | put k x=>
  simp only[qu,zF,zV]at h;exact⟨h.1,λd=>by rw[d]at h;simp at h⟩
 | back=>
  simp only[qu]at h;split at h
  ·rename_i k xs r hh;simp only[zF,zV,kx]at h;exact⟨k,xs,r,hh,λx i=>⟨AO (h.1 x i).1,(h.1 x i).2⟩,h.2⟩
  ·cases h
 | dG s a=>
  simp only[qu,zF,zV,kx]at h;exact⟨h.1,h.2.1,h.2.2⟩
 | drain=>trivial
def qj:Nat->Hw->Nat->Ph->Option (Hw×Int×Int)
 | 0,_,_,_=>none
 | n+1,H,t,p=>if qu H t p&&decide ((H.ka t).bQ.length<=900)then(match (WH H t p).2.1 with
  | none=>some (Ke H t p,(WH H t p).2.2.1,(WH H t p).2.2.2)
  | some p'=>qj n (Ke H t p) t p')else none
theorem II:∀{n:Nat} {H:Hw} {t:Nat} {p:Ph} {r:Hw×Int×Int},qj n H t p=some r->∃m,iI m H t p r.1 r.2.1 r.2.2
 | 0,_,_,_,_,h=>by simp[qj]at h
 | n+1,H,t,p,r,h=>by
  rw[qj]at h;split at h
  ·rename_i hc;simp only[zF,zV]at hc;have hok:wx H t p:=⟨Ro hc.1,λg b=>by rw[←G0 b];exact hc.2⟩;split at h
   ·rename_i hn;cases h;exact⟨1,.done hok hn⟩
   ·rename_i p' hs;obtain⟨m,a⟩:=II h;exact⟨m+1,.next hok hs a⟩
  ·cases h
def UK (H:Hw)(thread kind size align addr:Int):Option (Hw×Int×Int):=match Vb H thread kind size align addr with
 | .inl e=>if e=0 then none else some (H,0,e)
 | .inr (t,p)=>qj 40 (eY H t (some p)) t p
theorem Fh {H:Hw}{thread kind size align addr:Int}{r:Hw×Int×Int}(h:UK H thread kind size align addr=some r):KN H thread kind size align addr r.1 r.2.1 r.2.2:=by
 unfold UK at h;split at h
 ·rename_i e he;split at h
  ·cases h
  ·rename_i hne;cases h;exact .inl ⟨he,hne,rfl,rfl⟩
 ·rename_i t p he;obtain⟨m,a⟩:=II h;exact .inr ⟨t,p,m,he,a⟩
def Fe:List cA:=(ri 8).map QI
def w0:Hw:=Uw Fe ⟨64,1,1,1024,2⟩
theorem yh:Uw ((ri 8).map QI) ⟨(64:Int).toNat,(1:Int).toNat,(1:Int).toNat,(1024:Int).toNat,(2:Int).toNat⟩=w0:=rfl
end Go.Ar
namespace Go.Ar
open Go Go.Vc Go.Proofs
variable {U u u':Hp}{F:Rg}{L:dE}{H H':Hw}{N:Nat}
attribute [local irreducible] w0 Fe
theorem ι (g:Gl U)(gd:Gd U){R:Option Addr->Hp->Prop}(hR:∀σ' L N,aF U σ'->U.size<=N->N<=σ'.size->HH σ' (λb=>N<=b) L w0->R (some ⟨L.p,0,none⟩) σ'):XO.c U R:=by
 refine XO.o ?_;unfold XO.v;refine WM.o ?_;unfold WM.v;refine nw (cs:=[.int .i64 8,.int .i64 64,.int .i64 1,.int .i64 1,.int .i64 1024,.int .i64 2]) λv y e m=>m.rI rfl ?_;refine Fg 8 aB aB λs x e1 r=>?_;have a:=e1.bV m id;have d:=e.trans e1;refine a.fD rfl (a.fD rfl (a.fD rfl (a.fD rfl (a.fD rfl ?_))));refine BP r (g.bP d) (gd.bP d) 64 1 1 1024 2 (λi=>?_) (λ_ u=>?_) λ_ _ w L e2 j=>?_
 ·have:=GR 8 aB aB;rw[show((8:Nat):Int)=8 from rfl]at this;rw[this]at i;cases i
 ·exact absurd u aB
 ·rw[yh]at j;exact cD rfl (hR w L x.size (d.trans e2) d.1 e2.1 j)
end Go.Ar
namespace Go.Proofs
open Go.Vc
set_option maxRecDepth 100000
def Yt.h:Hn:=.q .o2 (.q (.q .o3 (.c (.q .o3 .l) .l)) (.q .o9 (.q (.q .o2 (.c (.q .o3 .l) .l)) (.q .o4 .l))))
def Yt.v (a:R2)(b:Int)(c:Hp)(d:Int->Int->Int->Int->Int->Hp->Prop):Prop:=aV #[.I 0,.I 0,.I 0,.I 0] 48 c λe f=>W9.c a f λg h=>If (!g) (aR e 0 (.I 0) h λi=>aR e 1 (.I 0) i λj=>aR e 2 (.I 0) j λk=>aR e 3 (.I 0) k λl=>aQ e 0 l λm=>aQ e 1 l λn=>aQ e 2 l λo=>aQ e 3 l λp=>d m n o p 5 l) (Zt.c a b ⟨60,#[],#[]⟩ h λq r s t u v w=>aV #[.I 0,.I 0,.I 0,.I 0,.I 0] 106 w λx y=>aR x 0 (.I q) y λz=>aR x 1 (.I r) z λaa=>aR x 2 (.I s) aa λab=>aR x 3 (.I t) ab λac=>aR x 4 (.I u) ac λad=>If (!v) (aR e 0 (.I 0) ad λae=>aR e 1 (.I 0) ae λaf=>aR e 2 (.I 0) af λag=>aR e 3 (.I 0) ag λah=>aQ e 0 ah λai=>aQ e 1 ah λaj=>aQ e 2 ah λak=>aQ e 3 ah λal=>d ai aj ak al 8 ah) (bN ((x.add 0).add 0) ad λam=>bN ((x.add 0).add 1) ad λan=>bN ((x.add 0).add 2) ad λao=>bN ((x.add 0).add 3) ad λap=>aR e 0 (.I am) ad λaq=>aR e 1 (.I an) aq λar=>aR e 2 (.I ao) ar λau=>aR e 3 (.I ap) au λav=>aQ e 0 av λaw=>aQ e 1 av λax=>aQ e 2 av λay=>aQ e 3 av λaz=>d aw ax ay az 0 av))
theorem Yt.o {a b c d}(e:Yt.v a b c d):Yt.c a b c d:=Wa Tryz.func24 (x:=Yt.h) (R0 e)
def Zi.h:Hn:=.q .o1 (.q (.q .o3 .aK) (.q .o1 (.q (.q .o8 (.k (.loop [(3,.one .s),(16,.I)] (.q .o1 (.q (.c .l .l) (.q (.k (.q .o3 (.o 11))) .o2)))))) .aL)))
def Zi.v (a:R2)(b:Hp)(c:Sl->Hp->Prop):Prop:=W9.c a b λd e=>If (!d) (c ⟨none,0,0⟩ e) (bJ a 1 e λg=>ZJ.c g e λh i=>Ua.c h i λj k=>Yf [.s,bO] (λl=>l ⟨none,0,0⟩ 0 k) λm (n:Sl) (o:Int) p=>If (o<((j.len:Nat):Int)) (Ix j.a j.len o 1 λq=>bN q p λr=>bW a λs=>bC s 1 p λt=>Lk .i64 (.ag 5) t r p λu=>aV #[.I ((u.getD (0,0,0,0,0)).1),.I ((u.getD (0,0,0,0,0)).2.1),.I ((u.getD (0,0,0,0,0)).2.2.1),.I ((u.getD (0,0,0,0,0)).2.2.2.1)] 48 p λv w=>App n 4 32 48 [.I 0,.I 0,.I 0,.I 0] ⟨some v,1,1⟩ w λx y=>bM (o+1) λz=>m x z y) (c n p))
theorem Zi.o {a b c}(d:Zi.v a b c):Zi.c a b c:=Wa Tryz.func33 (x:=Zi.h) (R0 d)
def Kf.h:Hn:=.q .o2 (.q (.q .o3 .aJ) (.q .o7 .l))
def Kf.v (a:R2)(b:Hp)(c:Option Addr->Int->Hp->Prop):Prop:=Q9.c a b λd e=>If (!d) (c none 1 e) (Nw (.map #[] 0) e λf g=>Nw (.map #[] 0) g λh i=>aV #[.pointer a,.map (some f.block),.map (some h.block),.I 0] 75 i λj k=>c (some j) 0 k)
theorem Kf.o {a b c}(d:Kf.v a b c):Kf.c a b c:=Wa Tryz.func38 (x:=Kf.h) (R0 d)
def XD.h:Hn:=.q .o1 (.q (.q .o3 .aK) (.q .o5 .l))
def XD.v (a:R2)(b:Hp)(c:Option Addr->Hp->Prop):Prop:=W9.c a b λd e=>If (!d) (c none e) (bG a 0 e λg=>c g e)
theorem XD.o {a b c}(d:XD.v a b c):XD.c a b c:=Wa Tryz.func43 (x:=XD.h) (R0 d)
def Yb.h:TX:=.nx (.o 3) (.nx (.seq (.o 3) (.cond (.seq (.o 2) (.leaf)) (.leaf))) (.nx (.seq (.cU (.seq [.op,.op,.op,.cX false 2 [.op,.op],.op,.cX false 2 [.op,.op],.op,.cX false 2 [.op,.op],.op,.cX false 5 [.op,.op,.op,.op,.op]])) (.cond (.seq (.o 2) (.leaf)) (.leaf))) (.nx (.o 3) (.nx (.o 5) (.nx (.cU (.held true [] (.take 0 (.take 1 (.take 2 (.take 3 (.take 4 (.take 5 (.take 6 (.take 10 (.all [(7,.take 8 (.take 9 (.all [(11,.take 12 (.take 13 (.take 14 (.take 15 (.take 16 (.done))))))])))]))))))))))) (.nx (.seq (.o 2) (.cond (.seq (.o 3) (.leaf)) (.leaf))) (.nx (.o 8) (.nx (.o 16) (.nx (.o 12) (.r1 (.o 2) bO (.block (.cU (.held true [] (.take 0 (.take 1 (.take 2 (.take 3 (.take 4 (.take 5 (.all [(6,.all [(7,.done)])])))))))))) (.seq (.o 3) (.seq (.cU (.held true [8] (.take 0 (.take 1 (.take 2 (.take 3 (.take 4 (.take 5 (.take 6 (.take 7 (.all [(8,.done)]))))))))))) (.seq (.o 5) (.leaf))))))))))))))
def Yb.v (a:R2)(b c d:Int)(e:Hp)(f:Int->Int->Hp->Prop):Prop:=aV #[.pointer a] 50 e λg h=>fX g h λi=>W9.c i h λj k=>If (!j) (f 0 5 k) (bX (λl m=>bX (λn o=>bX (λp q=>bX (λr s=>If r (f 0 1 s) (aV #[.I 0,.I 0,.I 0,.I 0,.I 0] 106 s λt u=>aR t 0 (.I 0) u λv=>aR t 1 (.I c) v λw=>aR t 2 (.I 0) w λx=>aR t 3 (.I 0) x λy=>aR t 4 (.I 0) y λz=>dY z λaa=>gJ aa .p g λ(ab:R2)=>bW ab λac=>aU aa ac 0 λad=>aS aa t 0 λae=>aS aa t 1 λaf=>aS aa t 2 λag=>aS aa t 3 λah=>aS aa t 4 λai=>XG.c ae af ag ah ai z λaj ak=>And (aa ak) <| bM ((if 16>d then 16 else d)+aj) λal=>bM (al+16) λam=>Y4.c ad b am (if 16>d then 16 else d) ak λan ao ap=>And (aa ap) <| If (ao != 0) (f 0 ao ap) (fX g ap λaq=>bE aq 3 ap λau=>bM (au+1) λav=>bW aq λaw=>aR aw 3 (.I av) ap λax=>fX g ax λay=>bE ay 3 ax λa0=>bM (an+(if 16>d then 16 else d)) λa1=>aR t 4 (.I a0) ax λa2=>dQ ((t.add 0).add 2) (.I an) a2 λa3=>dQ ((t.add 0).add 0) (.I a1) a3 λa4=>fX g a4 λa5=>bG a5 0 a4 λa7=>XU.c a7 an a4 λa8 a9 ba=>dQ ((t.add 0).add 3) (.I a8) ba λbb=>aQ t 0 bb λbc=>aQ t 1 bb λbd=>aQ t 2 bb λbe=>aQ t 3 bb λbf=>aQ t 4 bb λbg=>
 X3.c bc bd be bf bg bb λbh bi=>CW Tryz.prog (e1 bO) bh bi (λ(bj:Int) bk bl=>dY bl λbm=>gJ bm .p g λ(bn:Option Addr)=>bW bn λbo=>aU bm bo 0 λbp=>Z8.c bj bl λbq br=>And (bm br) <| Xr.c bp bj bq br λbs bt=>And (bm bt) <| bk bt) λbu=>fX g bu λbv=>aQ t 0 bu λbw=>aQ t 1 bu λbx=>aQ t 2 bu λbz=>aQ t 3 bu λb0=>aQ t 4 bu λb1=>Yr.c bv bw bx bz b0 b1 0 bu λb2=>dY b2 λb3=>gJ b3 .p g λ(b4:Option Addr)=>bW b4 λb5=>gJ b3 .m (b5.add 1) λ(b6:Option Nat)=>gJ b3 bO ((t.add 0).add 0) λ(b7:Int)=>aS b3 t 0 λb8=>aS b3 t 1 λb9=>aS b3 t 2 λca=>aS b3 t 3 λcb=>aS b3 t 4 λcc=>kQ .i64 (.ag 5) b6 b7 (b8,b9,ca,cb,cc) b2 λcd=>bN ((t.add 0).add 0) cd λce=>wb bi.size cd λcf=>f ce 0 cf))) λcg=>If p (cg true q) (bM (d-1) λch=>cg ((bits .and .i64 d ch) != 0) q)) λci=>If n (ci true o) (ci (decide (d>256)) o)) λcj=>If l (cj true m) (cj (decide (d<1)) m)) λck=>If (c<1) (ck true k) (ck (decide (c>1024)) k))
theorem Yb.o {a b c d e f}(g:Yb.v a b c d e f):Yb.c a b c d e f:=FU Tryz.func56 (x:=Yb.h) (R0 g)
def W9.h:Hn:=.q .o1 (.q (.cU (.seq [.op,.op,.op,.cX true 5 (RI.ops 5),.op])) .l)
def W9.v (a:R2)(b:Hp)(c:aO):Prop:=bX (λd e=>c d e) λf=>If (!a.isNone) (bG a 0 b λh=>f (!h.isNone) b) (f false b)
theorem W9.o {a b c}(d:W9.v a b c):W9.c a b c:=Wa Tryz.func58 (x:=W9.h) (R0 d)
def Zt.h:Hn:=.q .o2 (.q .o1 (.q .o2 (.q (.q .o5 (.k (.loop [(9,.one .b),(10,.one .b)] (.q (.cU (.seq [.it .i64 (.ag 5),.op])) (.q (.c .l .l) (.k (.q (.cU (.seq [.it .i64 (.ag 5),.op,.op,.op])) (.q (.q (.cU (.gN true [] [(38,.one .b)] (.tk [0,1,2,3,4,5] (.split 28 (.tk [6,7,8,9,10,11,12,13,14,15] (.done)) (.tk [6,7,8,9,10,11] (.all [(12,.tk [13,14,15] (.done))])))))) (.c .l .l)) (.q .o5 (.q (.cU (.seq [.op,.op,.op,.cX false 5 [.op,.op,.cX true 2 [.op,.op]],.op,.cX false 10 [.op,.op,.op,.op,.cX true 5 (RI.ops 5)]])) (.c .o5 .l))))))))))) (.q .o4 .l))))
def Zt.v (a:R2)(b:Int)(c:Fv)(d:Hp)(e:Int->Int->Int->Int->Int->Bool->Hp->Prop):Prop:=aV #[.I 0,.I 0,.I 0,.I 0,.I 0] 106 d λf g=>aV #[.I 0,.I 0,.I 0,.I 0,.I 0] 106 g λh i=>bJ a 1 i λk=>oU .i64 (.ag 5) k i λl m=>Yf [.b,.b] (λn=>n false false m) λo (p:Bool) (q:Bool) r=>pC .i64 (.ag 5) l r (aQ h 0 r λs=>aQ h 1 r λt=>aQ h 2 r λu=>aQ h 3 r λv=>aQ h 4 r λw=>aR f 0 (.I s) r λx=>aR f 1 (.I t) x λy=>aR f 2 (.I u) y λz=>aR f 3 (.I v) z λaa=>aR f 4 (.I w) aa λab=>aQ f 0 ab λac=>aQ f 1 ab λad=>aQ f 2 ab λae=>aQ f 3 ab λaf=>aQ f 4 ab λag=>e ac ad ae af ag p ab) (λah ai aj=>oP .i64 (.ag 5) l aj λak al=>aV #[.I 0,.I 0,.I 0,.I 0,.I 0] 106 aj λam an=>aR am 0 (.I al.1) an λao=>aR am 1 (.I al.2.1) ao λap=>aR am 2 (.I al.2.2.1) ap λaq=>aR am 3 (.I al.2.2.2.1) aq λar=>aR am 4 (.I al.2.2.2.2) ar λau=>Jn [.b] (λ(av:Bool) aw=>If av (o p q aw) (aQ am 0 aw λax=>aQ am 1 aw λay=>aQ am 2 aw λaz=>aQ am 3 aw λa0=>aQ am 4 aw λa1=>XE.c a ax ay az a0 a1 aw λa2 a3=>bX (λa4 a5=>bX (λa6 a7=>If a6 (aQ am 0 a7 λa8=>aQ am 1 a7 λa9=>aQ am 2 a7 λba=>aQ am 3 a7 λbb=>aQ am 4 a7 λbc=>aR h 0 (.I a8) a7 λbd=>
 aR h 1 (.I a9) bd λbe=>aR h 2 (.I ba) be λbf=>aR h 3 (.I bb) bf λbg=>aR h 4 (.I bc) bg λbh=>o true (!a2) bh) (o p q a7)) λbi=>If a4 (bi true a5) (bX (λbj bk=>bi bj bk) λbl=>If ((!a2)==q) (aQ am 4 a5 λbm=>aQ h 4 a5 λbn=>bl (decide (bm>bn)) a5) (bl false a5))) λbo=>If (!p) (bo true a3) (bX (λbp bq=>bo bp bq) λbr=>If (!a2) (br (!q) a3) (br false a3)))) λbs=>dY au λbt=>gJ bt bO ((am.add 0).add 0) λ(bu:Int)=>If (b<bu) (bs true au) (gJ bt bO ((am.add 0).add 0) λ(bv:Int)=>aS bt am 0 λbw=>aS bt am 1 λbx=>aS bt am 2 λbz=>aS bt am 3 λb0=>aS bt am 4 λb1=>VJ Tryz.prog c [.agg #[.I bw,.I bx,.I bz,.I b0,.I b1]] [.I] au λb2 b3=>And (bt b3) <| bM (bv+b2) λb4=>bs (decide (b≥b4)) b3))
theorem Zt.o {a b c d e}(f:Zt.v a b c d e):Zt.c a b c d e:=Wa Tryz.func59 (x:=Zt.h) (R0 f)
def Y3.h:Hn:=.q .o2 (.q .o4 .l)
def Y3.v (a b c d e:Int)(f:Hp)(g:aN):Prop:=aV #[.I a,.I b,.I c,.I d,.I e] 106 f λh i=>bN ((h.add 0).add 1) i λj=>g j i
theorem Y3.o {a b c d e f g}(h:Y3.v a b c d e f g):Y3.c a b c d e f g:=Wa Tryz.func60 (x:=Y3.h) (R0 h)
def Ze.h:Hn:=.q .o1 (.q .o5 .l)
def Ze.v (a:R2)(b c:Int)(d:Hp)(e:aN):Prop:=XQ.c a b c true d λf g=>e f g
theorem Ze.o {a b c d e}(f:Ze.v a b c d e):Ze.c a b c d e:=Wa Tryz.func70 (x:=Ze.h) (R0 f)
def X1.h:Hn:=.q .o2 (.q (.q .o3 .aJ) (.q (.o 12) (.q (.q .o2 .aJ) (.q (.q .o3 .aJ) (.q .o5 .l)))))
def X1.v (a:R2)(b:Int)(c:Hp)(d:Sl->Int->Hp->Prop):Prop:=W9.c a c λe f=>If (!e) (d ⟨none,0,0⟩ 5 f) (bJ a 1 f λh=>Lk .i64 (.ag 5) h b f λi=>aV #[.I 0,.I 0,.I 0,.I 0,.I 0] 106 f λj k=>aR j 0 (.I ((i.getD (0,0,0,0,0)).1)) k λl=>aR j 1 (.I ((i.getD (0,0,0,0,0)).2.1)) l λm=>aR j 2 (.I ((i.getD (0,0,0,0,0)).2.2.1)) m λn=>aR j 3 (.I ((i.getD (0,0,0,0,0)).2.2.2.1)) n λo=>aR j 4 (.I ((i.getD (0,0,0,0,0)).2.2.2.2)) o λp=>If (!i.isSome) (d ⟨none,0,0⟩ 8 p) (aQ j 0 p λq=>aQ j 1 p λr=>aQ j 2 p λs=>aQ j 3 p λt=>aQ j 4 p λu=>XE.c a q r s t u p λv w=>If v (d ⟨none,0,0⟩ 5 w) (aQ j 0 w λx=>aQ j 1 w λy=>aQ j 2 w λz=>aQ j 3 w λaa=>aQ j 4 w λab=>XM.c a x y z aa ab w λac ad=>d ac 0 ad)))
theorem X1.o {a b c d}(e:X1.v a b c d):X1.c a b c d:=Wa Tryz.func71 (x:=X1.h) (R0 e)
def Y9.h:Hn:=.q .o2 (.q (.q .o4 (.q .o2 (.c (.q .o3 .l) .l))) (.q .gA .l))
def Y9.v (a:R2)(b:Int)(c:Hp)(d:Int->Int->Hp->Prop):Prop:=Yo.c a b c λe f=>If (e != 0) (d 0 e f) (bG a 0 f λh=>YC.c h b f λi j k=>d i j k)
theorem Y9.o {a b c d}(e:Y9.v a b c d):Y9.c a b c d:=Wa Tryz.func76 (x:=Y9.h) (R0 e)
def Q9.h:Hn:=.q .o1 (.q (.cU (.seq [.op,.op,.op,.cX true 4 (RI.ops 4),.op])) .l)
def Q9.v (a:R2)(b:Hp)(c:aO):Prop:=bX (λd e=>c d e) λf=>If (!a.isNone) (XS.c a b λg h i j k l=>f (decide (g>0)) l) (f false b)
theorem Q9.o {a b c}(d:Q9.v a b c):Q9.c a b c:=Wa Tryz.func77 (x:=Q9.h) (R0 d)
def YN.h:Hn:=.q .o1 (.q (.q .o4 (.q .o2 .aJ)) (.q .o8 .l))
def YN.v (a:R2)(b c:Int)(d:Hp)(e:aN):Prop:=Yo.c a b d λf g=>If (f != 0) (e f g) (bG a 0 g λi=>Xr.c i b c g λj k=>e j k)
theorem YN.o {a b c d e}(f:YN.v a b c d e):YN.c a b c d e:=Wa Tryz.func78 (x:=YN.h) (R0 f)
def XG.h:Hn:=.q .o2 (.q .o8 .l)
def XG.v (a b c d e:Int)(f:Hp)(g:aN):Prop:=aV #[.I a,.I b,.I c,.I d,.I e] 106 f λh i=>bN ((h.add 0).add 1) i λj=>bM (j+8) λk=>bM (k-1) λl=>Nz 8<|bM (l.tdiv 8) λm=>bM (m*8) λn=>g n i
theorem XG.o {a b c d e f g}(h:XG.v a b c d e f g):XG.c a b c d e f g:=Wa Tryz.func98 (x:=XG.h) (R0 h)
def X3.h:Hn:=.q .o2 .aL
def X3.v (a b c d e:Int)(f:Hp)(g:Fv->Hp->Prop):Prop:=aV #[.I a,.I b,.I c,.I d,.I e] 106 f λh i=>g ⟨156,#[],#[.pointer (some h)]⟩ i
theorem X3.o {a b c d e f g}(h:X3.v a b c d e f g):X3.c a b c d e f g:=Wa Tryz.func100 (x:=X3.h) (R0 h)
def Z8.h:Hn:=.q .o1 (.q .o4 .l)
def Z8.v (a:Int)(b:Hp)(c:aN):Prop:=bM (0-a) λd=>bM (d-1) λe=>c e b
theorem Z8.o {a b c}(d:Z8.v a b c):Z8.c a b c:=Wa Tryz.func101 (x:=Z8.h) (R0 d)
def Yr.h:Hn:=.q .o1 (.q .o1 (.k (.loop [(6,.I)] (.q (.q .o4 (.c .l .l)) (.q (.k (.cU (.tail 10 (RI.ops 10) [.op]))) .o3)))))
def Yr.v (a:R2)(b c d e f g:Int)(h:Hp)(i:aP):Prop:=aV #[.I b,.I c,.I d,.I e,.I f] 106 h λj k=>Yf [bO] (λl=>l 0 k) λm (n:Int) o=>aQ j 0 o λp=>aQ j 1 o λq=>aQ j 2 o λr=>aQ j 3 o λs=>aQ j 4 o λt=>XG.c p q r s t o λu v=>If (n<u) (bG a 0 v λx=>bN ((j.add 0).add 0) v λy=>bM (y+n) λz=>Xr.c x z g v λaa ab=>bM (n+8) λac=>m ac ab) (i v)
theorem Yr.o {a b c d e f g h i}(j:Yr.v a b c d e f g h i):Yr.c a b c d e f g h i:=Wa Tryz.func102 (x:=Yr.h) (R0 j)
def XE.h:Hn:=.q .o2 (.q (.cU (.held true [7] (.tk [0,1,2,3,4,5,6] (.all [(7,.tk [8,9,10,11,12] (.done))])))) (.q (.cU (.seq [.op,.op,.op,.cX false 5 (RI.ops 5),.op])) .l))
def XE.v (a:R2)(b c d e f:Int)(g:Hp)(h:aO):Prop:=aV #[.I b,.I c,.I d,.I e,.I f] 106 g λi j=>dY j λk=>bW a λl=>aU k l 0 λm=>gJ k bO ((i.add 0).add 2) λ(n:Int)=>XU.c m n j λo p q=>bX (λr s=>h r s) λt=>If (p != 0) (t true q) (bN ((i.add 0).add 3) q λu=>t (o != u) q)
theorem XE.o {a b c d e f g h}(i:XE.v a b c d e f g h):XE.c a b c d e f g h:=Wa Tryz.func103 (x:=XE.h) (R0 i)
def Zl.h:Hn:=.q .o1 (.q .o5 .l)
def Zl.v (a:R2)(b c:Int)(d:Hp)(e:aN):Prop:=XQ.c a b c false d λf g=>e f g
theorem Zl.o {a b c d e}(f:Zl.v a b c d e):Zl.c a b c d e:=Wa Tryz.func109 (x:=Zl.h) (R0 f)
def XQ.h:Hn:=.q .o1 (.q (.q .o3 .aK) (.q (.q .o4 (.q .o2 .aJ)) (.q (.o 12) (.q (.k (.q (.cU (.seq [.op,.op,.op,.cX true 6 (RI.ops 6),.op])) (.c .aM (.q .o3 (.c .aM (.q .o4 (.c .aM (.q (.cU (.seq [.op,.op,.cX true 5 (RI.ops 5),.op])) .aK)))))))) (.q .o3 (.q .o6 (.q .o6 (.q (.cU (.tail 8 (RI.ops 8) [.op])) .aM))))))))
def XQ.v (a:R2)(b c:Int)(d:Bool)(e:Hp)(f:aN):Prop:=W9.c a e λg h=>If (!g) (f 5 h) (YG.c a b h λi j=>If (i != 0) (f i j) (bJ a 1 j λl=>Lk .i64 (.ag 5) l c j λm=>aV #[.I 0,.I 0,.I 0,.I 0,.I 0] 106 j λn o=>aR n 0 (.I ((m.getD (0,0,0,0,0)).1)) o λp=>aR n 1 (.I ((m.getD (0,0,0,0,0)).2.1)) p λq=>aR n 2 (.I ((m.getD (0,0,0,0,0)).2.2.1)) q λr=>aR n 3 (.I ((m.getD (0,0,0,0,0)).2.2.2.1)) r λs=>aR n 4 (.I ((m.getD (0,0,0,0,0)).2.2.2.2)) s λt=>bX (λu v=>If u (f 9 v) (If (!m.isSome) (f 8 v) (aQ n 0 v λw=>aQ n 1 v λx=>aQ n 2 v λy=>aQ n 3 v λz=>aQ n 4 v λaa=>XE.c a w x y z aa v λab ac=>If ab (f 5 ac) (bX (λad ae=>If ad (f 10 ae) (aQ n 0 ae λaf=>aQ n 1 ae λag=>aQ n 2 ae λah=>aQ n 3 ae λai=>aQ n 4 ae λaj=>Yr.c a af ag ah ai aj (-1234567) ae λak=>bJ a 1 ak λam=>mj .i64 (.ag 5) am c ak λan=>bJ a 2 an λap=>kQ .i64 .b ap c true an λaq=>bG a 0 aq λau=>bN ((n.add 0).add 2) aq λav=>ZP.c au b av aq λaw ax=>f 0 ax)) λay=>If d (aQ n 0 ac λaz=>aQ n 1 ac λa0=>aQ n 2 ac λa1=>aQ n 3 ac λa2=>aQ n 4 ac λa3=>XM.c a az a0 a1 a2 a3 ac λa4 a5=>ay (decide (((a4.len:Nat):Int)>0)) a5) (ay false ac))))) λa6=>If (!m.isSome) (bJ a 2 t λa8=>
 Lk .i64 .b a8 c t λa9=>a6 (a9.getD false) t) (a6 false t)))
theorem XQ.o {a b c d e f}(g:XQ.v a b c d e f):XQ.c a b c d e f:=Wa Tryz.func118 (x:=XQ.h) (R0 g)
def XM.h:TX:=.nx (.o 3) (.nx (.o 1) (.r1 (.o 2) bO (.block (.seq (.o 11) (.seq (.cU (.seq [.op,.op,.op,.cX false 4 [.op,.op,.op,.op]])) (.cond (.o 5) (.leaf))))) (.seq (.o 2) (.leaf))))
def XM.v (a:R2)(b c d e f:Int)(g:Hp)(h:Sl->Hp->Prop):Prop:=aV #[.pointer a] 50 g λi j=>aV #[.I b,.I c,.I d,.I e,.I f] 106 j λk l=>aV #[.slice none 0 0] 31 l λm n=>aQ k 0 n λo=>aQ k 1 n λp=>aQ k 2 n λq=>aQ k 3 n λr=>aQ k 4 n λs=>X3.c o p q r s n λt u=>CW Tryz.prog (e1 bO) t u (λ(v:Int) w x=>fX i x λy=>bG y 0 x λaa=>YC.c aa v x λab ac ad=>bX (λae af=>If ae (jH m af λag=>aV #[.I v] 3 af λah ai=>App ag 1 8 3 [.I 0] ⟨some ah,1,1⟩ ai λaj ak=>dQ m (.slice aj.a aj.len aj.cap) ak λal=>w al) (w af)) λam=>If (ac != 0) (am true ad) (Z8.c v ad λan ao=>am (ab != an) ao)) λap=>jH m ap λaq=>wb u.size ap λar=>h aq ar
theorem XM.o {a b c d e f g h}(i:XM.v a b c d e f g h):XM.c a b c d e f g h:=FU Tryz.func119 (x:=XM.h) (R0 i)
def Yo.h:Hn:=.q .o1 (.q (.q .o3 .aK) (.q .o9 (.q (.k (.q (.cU (.seq [.op,.op,.op,.cX false 3 (RI.ops 3),.op])) (.c .aM (.q .o4 .aK)))) .aM)))
def Yo.v (a:R2)(b:Int)(c:Hp)(d:aN):Prop:=W9.c a c λe f=>If (!e) (d 5 f) (Zt.c a b ⟨98,#[],#[]⟩ f λg h i j k l m=>aV #[.I 0,.I 0,.I 0,.I 0,.I 0] 106 m λn o=>aR n 0 (.I g) o λp=>aR n 1 (.I h) p λq=>aR n 2 (.I i) q λr=>aR n 3 (.I j) r λs=>aR n 4 (.I k) s λt=>bX (λu v=>If u (d 7 v) (aQ n 0 v λw=>aQ n 1 v λx=>aQ n 2 v λy=>aQ n 3 v λz=>aQ n 4 v λaa=>XE.c a w x y z aa v λab ac=>If ab (d 5 ac) (d 0 ac))) λad=>If (!l) (ad true t) (Nz 8 <| ad ((b.tmod 8) != 0) t))
theorem Yo.o {a b c d}(e:Yo.v a b c d):Yo.c a b c d:=Wa Tryz.func123 (x:=Yo.h) (R0 e)
def cI.tv (l:Nat)(cap0:Addr)(U:Hp)(R:aP):Prop:=CQ Tryz.prog 156 #[.func (.yield l) #[] #[],.pointer (some cap0)] U R
def cI.wP:Hn:=.seq (.seq (.o 4) (.block (.loop [(3,.one bO)] (.seq (.seq (.o 5) (.cond (.leaf) (.leaf))) (.seq (.block (.seq (.leaf) (.cond (.leaf) (.leaf)))) (.o 3)))))) (.seq (.cU (.held true [] (.tk [0,1,2,3] (.all [(4,.take 5 (.take 6 (.done)))])))) (.block (.loop [(4,.one bO)] (.seq (.seq (.o 10) (.cond (.leaf) (.leaf))) (.seq (.block (.seq (.leaf) (.cond (.leaf) (.leaf)))) (.o 3))))))
def cI.yu (l:Nat)(cap0:Addr)(U:Hp)(R:aP):Prop:=
 gI .i64 ((cap0.add 0).add 2) U λvw=>
 Yf [bO] (λI=>I vw U) λJ (vw1:Int) v=>
 gI .i64 ((cap0.add 0).add 0) v λt11=>
 If (decide (vw1<t11)) (HL Tryz.prog l [.int .i64 vw1] v λmore v1=>
  If (!more) (R v1)
   (Ar .i64 (vw1+8) λvw2=>
   J vw2 v1))
  (dY v λS=>
  gJ S bO ((cap0.add 0).add 0) λ(t21:Int)=>
  gJ S bO (cap0.add 0) λ(t22:Int)=>
  gJ S bO (cap0.add 1) λ(t221:Int)=>
  gJ S bO (cap0.add 2) λ(t222:Int)=>
  gJ S bO (cap0.add 3) λ(t223:Int)=>
  gJ S bO (cap0.add 4) λ(t224:Int)=>
  XG.c t22 t221 t222 t223 t224 v λt23 v2=>
  And (S v2) <|
  Ar .i64 (t21+t23) λvw3=>
  Yf [bO] (λI1=>I1 vw3 v2) λJ1 (vw4:Int) v3=>
  Ar .i64 (vw4+8) λt26=>
  gI .i64 ((cap0.add 0).add 2) v3 λt29=>
  gI .i64 ((cap0.add 0).add 3) v3 λt32=>
  Ar .i64 (t29+t32) λt33=>
  If (decide (t26<=t33)) (HL Tryz.prog l [.int .i64 vw4] v3 λmore1 v4=>
   If (!more1) (R v4)
    (Ar .i64 (vw4+8) λvw5=>
    J1 vw5 v4))
   (R v3))
theorem cI.uP {l:Nat}{cap0:Addr}{U:Hp}{R:aP}(hv:cI.yu l cap0 U R):cI.tv l cap0 U R:=
 Pd Tryz.func156 (x:=cI.wP) (args:=[.func (.yield l) #[] #[],.pointer (some cap0)]) (R:=R) (R0 hv)
def YG.h:Hn:=.q .o1 (.q (.q (.cU (.seq [.op,.op,.op,.cX false 8 (RI.ops 8)])) .aK) (.q (.q .o7 .aK) .aM))
def YG.v (a:R2)(b:Int)(c:Hp)(d:aN):Prop:=bX (λe f=>If e (d 1 f) (bG a 0 f λh=>YZ.c h b f λi j=>If (!(i.toList==(ByteArray.mk #[]).toList)) (d 5 j) (d 0 j))) λk=>If (b<0) (k true c) (bG a 0 c λm=>XS.c m c λn o p q r s=>k (decide (b≥p)) s)
theorem YG.o {a b c d}(e:YG.v a b c d):YG.c a b c d:=Wa Tryz.func162 (x:=YG.h) (R0 e)
end Go.Proofs
namespace Go.Ar
open Go Go.Vc Go.Proofs
open Go.Vc (bU dA cN)
variable {U σ0 v w w':Hp}{F P Q X T:Rg}{L:dE}{H H':Hw}{held:List Pc}{s0 sp:Sp}{t n:Nat}{g:Th}{gb km fm m:Nat}
theorem gM {S:aP}{b i:Nat}{cs:List Value}{c:CK}{y:c.T}(hS:∀m,S m->bY m b cs)(hc:cs[i]?=some (c.v y)){K:c.T->Prop}(hK:K y):gJ S c (Addr.add ⟨b,0,none⟩ i) K:=
 ⟨y,λm a=>by rw[add_lit,(hS m a).cell,zH];exact hc,hK⟩
theorem rZ {S:aP}{b:Nat}{cs:List Value}{c:CK}{y:c.T}(hS:∀m,S m->bY m b cs)(hc:cs[0]?=some (c.v y)){K:c.T->Prop}(hK:K y):gJ S c ⟨b,0,none⟩ K:=
 ⟨y,λm a=>by rw[(hS m a).cell];exact hc,hK⟩
theorem pL {S:aP}{b i j:Nat}{cs:List Value}{c:CK}{y:c.T}(hS:∀m,S m->bY m b cs)(hc:cs[i+j]?=some (c.v y)){K:c.T->Prop}(hK:K y):gJ S c (Addr.add (Addr.add ⟨b,0,none⟩ i) j) K:=
 ⟨y,λm a=>by rw[add_lit,add_lit,(hS m a).cell,zH];exact hc,hK⟩
abbrev B5:=Int×Int×Int×Int×Int
def fC (b:B5):List Value:=[.int .i64 b.1,.int .i64 b.2.1,.int .i64 b.2.2.1,.int .i64 b.2.2.2.1,.int .i64 b.2.2.2.2]
def Yd (n:Int):Int:=(n+7)/8*8
structure gK (b:B5):Prop where
 s:1<=b.2.1/\b.2.1<=1024
 base:0<=b.2.2.1/\b.2.2.1%8=0
 z:16<=b.1-b.2.2.1/\b.1-b.2.2.1<=256/\b.1%8=0
 t:b.1+Yd b.2.1+16<=b.2.2.1+b.2.2.2.1/\b.2.2.2.1%8=0
 m:b.2.2.1+b.2.2.2.1<=270000
theorem ZE {n:Int}(h:0<=n):n<=Yd n/\Yd n<=n+7/\Yd n%8=0:=by unfold Yd;omega
structure Gu where
 kn:List (Int×B5)
 fr:List (Int×Bool)
 no:Int
def oT:Gu:=⟨[],[],0⟩
def VK (b:B5):Nat:=(b.1-b.2.2.1).toNat/8
def oy (b:B5):Nat:=(b.2.2.1+b.2.2.2.1-b.1-Yd b.2.1).toNat/8
def Zk (b:B5):List Int:=((List.range (VK b)).map λ(i:Nat)=>b.2.2.1+8*(i:Int))++(List.range (oy b)).map λ(i:Nat)=>b.1+Yd b.2.1+8*(i:Int)
theorem GL (b:B5):(Zk b).length=VK b+oy b:=by unfold Zk;simp
theorem RQ {b:B5}{i:Nat}(h:i<VK b):(Zk b)[i]?=some (b.2.2.1+8*(i:Int)):=by
 unfold Zk;rw[zd (by simpa using h)];simp[h]
theorem SS {b:B5}{i:Nat}(h:i<oy b):(Zk b)[VK b+i]?=some (b.1+Yd b.2.1+8*(i:Int)):=by
 unfold Zk;rw[zr aA];simp[h]
theorem HQ {b:B5}(bi:gK b){z:Int}(hz:z∈Zk b):b.2.2.1<=z/\z%8=0/\z+8<=b.2.2.1+b.2.2.2.1/\(z+8<=b.1\/b.1+Yd b.2.1<=z):=by
 obtain⟨s,⟨r,g⟩,⟨j,d,a⟩,⟨t,u⟩,m⟩:=bi;have p:=ZE (n:=b.2.1) O;unfold Zk at hz;rcases zM.1 hz with h|h
 ·obtain⟨i,hi,rfl⟩:=zE.1 h;have:=ze.1 hi;unfold VK at this;exact⟨O,O,O,.inl O⟩
 ·obtain⟨i,hi,rfl⟩:=zE.1 h;have:=ze.1 hi;unfold oy at this;exact⟨O,O,O,.inr O⟩
def ju (z:Int):Int:=-z-1
def tg (hp km fm:Nat)(x:Gu):List Value:=[.pointer (some ⟨hp,0,none⟩),.map (some km),.map (some fm),.int .i64 x.no]
structure GP (σ0 U:Hp) (L:dE) (H:Hw) (held:List Pc) (s0:Sp) (P:Rg) (gb km fm:Nat) (x:Gu):Prop where
 e:aF σ0 U
 h:HH U P L H
 hi:HI H held s0
 cf:iT H
 pg:H.cf.aG<=128
 pP:∀b,P b->σ0.size<=b/\b<U.size
 sg:σ0.size<=gb/\¬P gb
 s7:σ0.size<=km/\¬P km
 tz:σ0.size<=fm/\¬P fm
 n1:gb≠km
 n2:gb≠fm
 n3:km≠fm
 b:bY U gb (tg L.p km fm x)
 m:dK U km .i64 (.ag 5) x.kn
 f:dK U fm .i64 .b x.fr
 g0:jd (λb=>σ0.size<=b)/\¬σ0.size<=1
variable {x y:Gu}
theorem GP.fr (p:GP σ0 U L H held s0 P gb km fm x)(e:aF U w):GP σ0 w L H held s0 P gb km fm x:=
 ⟨p.e.trans e,p.h.bP e,p.hi,p.cf,p.pg,λb a=>⟨(p.pP b a).1,by have:=(p.pP b a).2;have:=e.1;omega⟩,p.sg,p.s7,p.tz,p.n1,p.n2,p.n3,e.bV p.b id,e.fV p.m id,e.fV p.f id,p.g0⟩
theorem GP.out (p:GP σ0 U L H held s0 P gb km fm x)(e:Ext T U w)(hT:∀b,b<U.size->T b->¬P b/\b≠gb/\b≠km/\b≠fm/\σ0.size<=b):GP σ0 w L H held s0 P gb km fm x:=by
 have s:=e.1;have a:=p.b.lt;have j:=p.m.lt;have g:=p.f.lt;have i:Ext (λb=>T b/\b<U.size) U w:=⟨e.1,λb a g=>e.2 b a λd=>g ⟨d,a⟩⟩;refine⟨Ext.dW p.e i λb a=>.inr (hT b a.2 a.1).2.2.2.2,p.h.bS i (λb a r d=>(hT b a d.1).1 r) (λb a=>?_) (λa=>?_),p.hi,p.cf,p.pg,λb a=>⟨(p.pP b a).1,by have:=(p.pP b a).2;omega⟩,p.sg,p.s7,p.tz,p.n1,p.n2,p.n3,e.bV p.b λd=>(hT gb a d).2.1 rfl,e.fV p.m λd=>(hT km j d).2.2.1 rfl,e.fV p.f λd=>(hT fm g d).2.2.2.1 rfl,p.g0⟩
 ·exact p.g0.1 b (hT b a.2 a.1).2.2.2.2
 ·exact p.g0.2 (hT _ a.2 a.1).2.2.2.2
theorem GP.step (p:GP σ0 U L H held s0 P gb km fm x){ts':List eR}(e:Ext P U w)(h':HH w (Grow P U) {L with ts:=ts'} H'){held':List Pc}{s0':Sp}(hi':HI H' held' s0')(k:Q2 H' H) :
 GP σ0 w {L with ts:=ts'} H' held' s0' (Cut (Grow P U) w) gb km fm x:=by
 have u:=e.1;have a:=p.b.lt;have r:=p.m.lt;have s:=p.f.lt;have g:∀b,b<U.size->¬P b->¬Cut (Grow P U) w b:=λb d j i=>by
  rcases i.1 with h3|h3
  ·exact j h3
  ·omega
 refine⟨Ext.dW p.e e λb a=>.inr (p.pP b a).1,h'.cut,hi',p.cf.bS k,by rw[k.2.1];exact p.pg,λb a=>⟨?_,a.2⟩,⟨p.sg.1,g gb a p.sg.2⟩,⟨p.s7.1,g km r p.s7.2⟩,⟨p.tz.1,g fm s p.tz.2⟩,p.n1,p.n2,p.n3,e.bV p.b p.sg.2,e.fV p.m p.s7.2,e.fV p.f p.tz.2,p.g0⟩;have:=p.e.1;rcases a.1 with d|d
 ·exact(p.pP b d).1
 ·omega
theorem GP.eV (p:GP σ0 U L H held s0 P gb km fm x)(e:Ext (λb=>b=gb\/b=km\/b=fm) U w)(hb:bY w gb (tg L.p km fm y))(hm:dK w km .i64 (.ag 5) y.kn)(hf:dK w fm .i64 .b y.fr):GP σ0 w L H held s0 P gb km fm y:=by
 have i:=e.1;have a:∀b,(b=gb\/b=km\/b=fm)->σ0.size<=b/\¬P b:=λb hb=>by
  rcases hb with rfl|rfl|rfl
  ·exact p.sg
  ·exact p.s7
  ·exact p.tz
 exact⟨Ext.dW p.e e λb hb=>.inr (a b hb).1,p.h.bS e (λb _ d g=>(a b g).2 d) (λb hb=>p.g0.1 b (a b hb).1) (λhb=>p.g0.2 (a _ hb).1),p.hi,p.cf,p.pg,λb hb=>⟨(p.pP b hb).1,by have:=(p.pP b hb).2;omega⟩,p.sg,p.s7,p.tz,p.n1,p.n2,p.n3,hb,hm,hf,p.g0⟩
theorem Ur (p:GP σ0 U L H held s0 P gb km fm x){R:aO}(hR:R true U):W9.c (aW gb) U R:=by
 refine W9.o ?_;unfold W9.v;exact bX.intro (cE rfl (bL (p.b.rP rfl hR)))
theorem HR (b:B5)(h0:0<=b.2.1)(h1:b.2.1<=1000000){R:aN}(hR:∀σ',aF U σ'->R (Yd b.2.1) σ'):XG.c b.1 b.2.1 b.2.2.1 b.2.2.2.1 b.2.2.2.2 U R:=by
 refine XG.o ?_;unfold XG.v;refine nw (cs:=fC b) λv d e a=>a.fD rfl (ar O O (ar O O (nz aB (ar (by rw[Ye O];omega) (by rw[Ye O];omega) ?_))));rw[Ye O];refine ar O O ?_;have:(b.2.1+8-1)/8*8=Yd b.2.1:=by unfold Yd;omega
 rw[this];exact hR v e
theorem Iv (z:Int)(h0:0<=z)(h1:z<=1000000){R:aN}(hR:R (ju z) U):Z8.c z U R:=by
 refine Z8.o ?_;unfold Z8.v;refine ar O O (ar O O ?_);have:0-z-1=ju z:=by unfold ju;omega
 rw[this];exact hR
theorem Jh (b:B5){R:Fv->Hp->Prop}(hR:∀σ',σ'.size=U.size+1->aF U σ'->bY σ' U.size (fC b)->R ⟨156,#[],#[.pointer (some ⟨U.size,0,none⟩)]⟩ σ'):X3.c b.1 b.2.1 b.2.2.1 b.2.2.2.1 b.2.2.2.2 U R:=by
 refine X3.o ?_;unfold X3.v;exact nw (cs:=fC b) λv d e a=>hR v d e a
theorem E8 {P:Program}{l:Nat}{args:List Value}{h:Hp}{R R':Bool->Hp->Prop}(hy:HL P l args h R)(hm:∀b w,R b w->R' b w):HL P l args h R':=λw i=>by
 obtain⟨s,a,r,p,d,g⟩:=hy w i;exact⟨s,a,r,p,d,g.mono λe x ⟨j,b,m,u⟩=>⟨j,b,m,hm _ _ u⟩⟩
theorem En {b:B5}(bi:gK b):xR Tryz.prog ⟨156,#[],#[.pointer (some ⟨n,0,none⟩)]⟩ ((Zk b).map (e1 bO)) (λs=>bY s n (fC b)):=by
 intro l J hst hKp hy h h0;obtain⟨s,⟨R,N⟩,⟨K,H,Q⟩,⟨t,P⟩,M⟩:=bi;have L:=ZE (n:=b.2.1) O;have E:(VK b:Int)*8=b.1-b.2.2.1:=by unfold VK;omega
 have D:(oy b:Int)*8=b.2.2.1+b.2.2.2.1-b.1-Yd b.2.1:=by unfold oy;omega
 show cI.tv l ⟨n,0,none⟩ h λF=>J ((Zk b).map (e1 bO)).length F;rw[zk,GL];refine cI.uP ?_;unfold cI.yu;refine(hKp 0 h h0).fD rfl (Qz (a:=bO) (λ(z:Int) s=>∃i:Nat,z=b.2.2.1+8*(i:Int)/\i<=VK b/\J i s) (λz _=>(b.1-z).toNat) ⟨0,O,O,h0⟩ ?_);rintro(z:Int) s ⟨i,rfl,hi,hJ⟩;have B:=hKp i s hJ;refine B.fD rfl (cP (λA=>?_) λx=>?_)
 ·have d:i<VK b:=by omega
  have w:((Zk b).map (e1 bO))[i]?=some [Value.int .i64 (b.2.2.1+8*(i:Int))]:=by rw[zZ,RQ d];rfl
  refine E8 (hy i _ w s hJ) λG C ⟨g,j⟩=>?_;subst g;exact cD rfl (ar O O ⟨⟨i+1,O,O,j⟩,O⟩)
 ·have d:i=VK b:=by omega
  subst d;have p:∀m,aF s m->bY m n (fC b):=λm e=>e.bV B id;refine⟨λm=>aF s m,Ext.refl _ _,pL (c:=bO) (y:=b.1) p rfl (gM (c:=bO) (y:=b.1) p rfl (gM (c:=bO) (y:=b.2.1) p rfl (gM (c:=bO) (y:=b.2.2.1) p rfl (gM (c:=bO) (y:=b.2.2.2.1) p rfl (gM (c:=bO) (y:=b.2.2.2.2) p rfl ?_)))))⟩;refine HR b O O λs1 r=>⟨r,ar O O ?_⟩;refine Qz (a:=bO) (λ(z:Int) s=>∃i:Nat,z=b.1+Yd b.2.1+8*(i:Int)/\i<=oy b/\J (VK b+i) s) (λz _=>(b.2.2.1+b.2.2.2.1-z).toNat) ⟨0,O,O,hst _ _ _ hJ r⟩ ?_;rintro(z:Int) s2 ⟨i,rfl,hi,hJ2⟩;have u:=hKp _ s2 hJ2;refine ar O O (u.fD rfl (u.fD rfl (ar O O (cP (λA=>?_) λx=>?_))))
  ·have d:i<oy b:=by omega
   have w:((Zk b).map (e1 bO))[VK b+i]?=some [Value.int .i64 (b.1+Yd b.2.1+8*(i:Int))]:=by rw[zZ,SS d];rfl
   refine E8 (hy _ _ w s2 hJ2) λG C ⟨g,j⟩=>?_;subst g;exact cD rfl (ar O O ⟨⟨i+1,O,O,j⟩,O⟩)
  ·have d:i=oy b:=by omega
   subst d;exact hJ2
def UJ (H:Hw)(b:B5):Bool:=!(Kw H b.2.2.1==some b.2.2.2.1)
theorem An (p:GP σ0 U L H held s0 P gb km fm x)(b:B5){R:aO}(hR:∀σ',aF U σ'->R (UJ H b) σ'):XE.c (aW gb) b.1 b.2.1 b.2.2.1 b.2.2.2.1 b.2.2.2.2 U R:=by
 refine XE.o ?_;unfold XE.v;refine nw (cs:=fC b) λv s e j=>?_;have g:=p.fr e;refine⟨λm=>aF v m,Ext.refl _ _,bL (gM (c:=.p) (y:=some ⟨L.p,0,none⟩) (λm e=>e.bV g.b id) rfl (pL (c:=bO) (y:=b.2.2.1) (λm e=>e.bV j id) rfl (EG g.h b.2.2.1 λr e1=>?_)))⟩;have d:=e1.bV j id;have a:=hR r (e.trans e1);refine bX.intro ?_;cases hu:Kw H b.2.2.1 with
 | none=>
  unfold UJ at a;rw[hu]at a;exact cE rfl a
 | some u=>
  unfold UJ at a;rw[hu]at a;refine cD rfl (d.fD rfl ?_);have:(!(some u==some b.2.2.2.1))=((some u).getD 0 != b.2.2.2.1):=by simp[bne]
  rw[this]at a;exact a
def ZG (H:Hw)(thread:Int):Int:=if thread<0\/thread≥(H.cf.threads:Int)then 1 else if(UE H thread).isSome then 5 else 0
theorem Nc (p:GP σ0 U L H held s0 P gb km fm x)(thread:Int){R:aN}(hR:∀σ',aF U σ'->R (ZG H thread) σ'):YG.c (aW gb) thread U R:=by
 refine YG.o ?_;unfold YG.v;refine KD (λr u=>aF U u/\r=decide (thread<0\/thread≥(H.cf.threads:Int))) (λr u ⟨d,j⟩=>?_) λJ i=>?_
 ·by_cases hc:thread<0\/thread≥(H.cf.threads:Int)
  ·have a:=hR u d;unfold ZG at a;rw[zC hc]at a;exact cE (by rw[j];exact zI hc) a
  ·have g:=p.fr d;refine cD (by rw[j];exact zL hc) (bL (g.b.rP rfl (F4 g.h thread λs m e2 w=>?_)));have a:=hR m (d.trans e2);unfold ZG at a;rw[zB hc]at a;rw[w];cases hp:UE H thread with
   | none=>rw[hp]at a;exact cD rfl a
   | some q=>rw[hp]at a;exact cE rfl a
 ·refine cP (λh=>i _ _ ⟨Ext.refl _ _,by rw[zI];exact .inl h⟩) λh=>bL (p.b.rP rfl (GD p.h λu e=>i _ _ ⟨e,?_⟩));rw[kW,decide_eq_true_iff,decide_eq_true_iff];exact⟨.inr,λy=>y.resolve_left h⟩
theorem WjK (h:HH U F L H)(hp:1<=H.cf.aG){R:aO}(hR:∀σ',aF U σ'->R true σ'):Q9.c (aW L.p) U R:=by
 refine Q9.o ?_;unfold Q9.v;refine bX.intro (cE rfl (GD h λw e=>?_));have:decide ((H.cf.aG:Int)>0)=true:=zI O;rw[this];exact hR w e
theorem Iz (e0:aF σ0 U)(h:HH U P L H)(hi:HI H held s0)(hc:iT H)(hpg:H.cf.aG<=128)(hP:∀b,P b->σ0.size<=b/\b<U.size)(hg:jd (λb=>σ0.size<=b)/\¬σ0.size<=1){R:Option Addr->Int->Hp->Prop}
 (hR:∀w gb km fm,aF U w->U.size<=gb/\U.size<=km/\U.size<=fm->GP σ0 w L H held s0 P gb km fm oT->R (some ⟨gb,0,none⟩) 0 w):Kf.c (aW L.p) U R:=by
 refine Kf.o ?_;unfold Kf.v;refine WjK h hc.1 λv e=>cD rfl (uL λi y e1 r=>uL λm u e2 z=>nw (cs:=tg L.p v.size i.size oT) λv3 s g A=>?_);have D:=e.1;have B:=e0.1;have a:=((e.trans e1).trans e2).trans g;have d:∀b,U.size<=b->¬P b:=λb C x=>by have:=(hP b x).2;omega
 exact hR v3 m.size v.size i.size a ⟨O,O,O⟩ ⟨e0.trans a,h.bP a,hi,hc,hpg,λb j=>⟨(hP b j).1,by have:=(hP b j).2;have:=a.1;omega⟩,⟨O,d _ O⟩,⟨O,d _ O⟩,⟨O,d _ O⟩,O,O,O,A,(e2.trans g).fV (r _ _) id,g.fV (z _ _) id,hg⟩
end Go.Ar
namespace Go.Ar
open Go Go.Vc Go.Proofs
open Go.Vc (bU dA cN)
variable {U σ0 v w w':Hp}{F P Q X T:Rg}{L:dE}{H H':Hw}{held:List Pc}{s0 sp:Sp}{t n:Nat}{g:Th}{gb km fm m:Nat}{x y:Gu}{b:B5}
def iF (sp:Sp)(l:List Int)(f:Int->Int):Sp:=l.foldl (λs z=>Zm s z (f z)) sp
theorem Rk (sp:Sp)(z:Int)(l:List Int)(f:Int->Int):iF sp (z::l) f=iF (Zm sp z (f z)) l f:=rfl
theorem DB (sp:Sp)(l:List Int)(z:Int)(f:Int->Int):iF sp (l++[z]) f=Zm (iF sp l f) z (f z):=by unfold iF;rw[vK];rfl
theorem Hb {sp:Sp}{x:Nat}:eM sp ((8*x:Nat):Int)=0↔gf sp.st (x/32)≠0:=by
 unfold eM;rw[zB O,show((8*x:Nat):Int).toNat/256=x/32 by omega];unfold gf;split
 ·rename_i h;rw[h];simp
 ·rename_i h;exact⟨λ_=>h,λ_=>rfl⟩
theorem A0 (sp:Sp)(x:Nat):QY sp ((8*x:Nat):Int)=if gf sp.st (x/32)≠0 then sp.wd x else 0:=by
 unfold QY;by_cases h:gf sp.st (x/32)≠0
 ·rw[zC (Hb.2 h),zC h];congr 1;omega
 ·rw[zB (λa=>h (Hb.1 a)),zB h]
theorem Aa (f:Int->Int):∀(l:List Int) (sp:Sp),(∀z∈l,0<=z/\z%8=0)->(iF sp l f).st.length=sp.st.length/\(∀p,gf (iF sp l f).st p=0↔gf sp.st p=0) ∧
 ∀w:Nat,(iF sp l f).wd w=if((8*w:Nat):Int)∈l/\gf sp.st (w/32)≠0 then f ((8*w:Nat):Int)else sp.wd w
 | [],sp,_=>⟨rfl,λ_=>Iff.rfl,λw=>by rw[zB aA];rfl⟩
 | z::l,sp,hl=>by
  obtain⟨i1,i2,i3⟩:=Aa f l (Zm sp z (f z)) λz a=>hl z (lg _ a);obtain⟨d,b,g⟩:=Eg sp z (f z);have r:=hl z lW;obtain⟨zn,rfl⟩:∃c:Nat,z=((8*c:Nat):Int):=⟨z.toNat/8,O⟩;rw[Rk];refine⟨i1.trans d,λp=>(i2 p).trans (b p),λw=>?_⟩;rw[i3,g];have a:=b (w/32);by_cases hm:gf sp.st (w/32)≠0
  ·by_cases hw:((8*w:Nat):Int)∈l
   ·rw[zC ⟨hw,λh=>hm (a.1 h)⟩,zC ⟨lg _ hw,hm⟩]
   ·rw[zB λh=>hw h.1];by_cases he:w=zn
    ·subst he;rw[zC ⟨Hb.2 hm,O⟩,zC ⟨lW,hm⟩]
    ·rw[zB λh=>he (by have:=h.2;omega),zB λh=>(zW.1 h.1).elim (λh=>he O) hw]
  ·have key:¬(eM sp ((8*zn:Nat):Int)=0/\w=((8*zn:Nat):Int).toNat/8):=λh=>by
    have j:=Hb.1 h.1;have m:w=zn:=by omega
    subst m;exact hm j
   rw[zB λh=>hm λi=>h.2 (a.2 i),zB key,zB λh=>hm h.2]
theorem HI.iF (f:Int->Int):∀(l:List Int) {H:Hw} {s0:Sp},HI H held s0->∃s0',HI {H with sp:=Go.Ar.iF H.sp l f} held s0'
 | [],H,s0,h=>⟨s0,h⟩
 | z::l,H,s0,h=>HI.iF f l (h.write z (f z))
theorem KW {f:Int->Int}{l:List Int}{sp:Sp}(hl:∀z∈l,0<=z/\z%8=0)(w:Nat):QY (iF sp l f) ((8*w:Nat):Int)=if((8*w:Nat):Int)∈l/\gf sp.st (w/32)≠0 then f ((8*w:Nat):Int)else QY sp ((8*w:Nat):Int):=by
 obtain⟨_,a,b⟩:=Aa f l sp hl;rw[A0,A0];by_cases hm:gf sp.st (w/32)≠0
 ·rw[zC λh=>hm ((a _).1 h),b];by_cases hw:((8*w:Nat):Int)∈l
  ·rw[zC ⟨hw,hm⟩,zC ⟨hw,hm⟩]
  ·rw[zB λh=>hw h.1,zB λh=>hw h.1,zC hm]
 ·rw[zB λh=>hm λd=>h ((a _).2 d),zB λh=>hm h.2,zB hm]
def QA (b:B5):Nat:=(Yd b.2.1/8).toNat
def XC (b:B5):List Int:=(List.range (QA b)).map λ(i:Nat)=>b.1+8*(i:Int)
theorem Hi (bi:gK b){z:Int}(hz:z∈XC b):b.1<=z/\z%8=0/\z+8<=b.1+Yd b.2.1:=by
 obtain⟨s,⟨r,g⟩,⟨j,d,a⟩,⟨t,u⟩,m⟩:=bi;have p:=ZE (n:=b.2.1) O;obtain⟨i,hi,rfl⟩:=zE.1 hz;have:=ze.1 hi;unfold QA at this;omega
theorem GP.write (p:GP σ0 U L H held s0 P gb km fm x)(gc:Gc σ0)(z u:Int)(hz:z<=9223372036854775807){R:aN}
 (hR:∀w s0' P',Ext P U w->GP σ0 w L {H with sp:=Zm H.sp z u} held s0' P' gb km fm x->(∀c,P' c->P c\/U.size<=c)->R (eM H.sp z) w):Xr.c (aW L.p) z u U R:=by
 refine O6 p.h (gc.bP p.e) z u hz λw e a=>?_;exact hR w _ _ e (p.step (ts':=L.ts) e a (p.hi.write z u) ⟨rfl,rfl,rfl,rfl⟩) λc b=>b.1
theorem FW {D:Nat}{s:Hp}{K:aP}(h:s[D]?=some (.deferred (some [])))(hK:∀w,Ext (· = D) s w->K w):wb D s K:=
 ⟨h,hK _ ⟨by simp,λb d a=>by rw[Array.getElem?_setIfInBounds,zB λh=>a h.symm]⟩⟩
set_option maxRecDepth 8000 in
theorem FV (p:GP σ0 U L H held s0 P gb km fm x)(gc:Gc σ0)(bi:gK b)(val:Int){R:aP}
 (hR:∀w s0' P',Ext P U w->GP σ0 w L {H with sp:=iF H.sp (XC b) λ_=>val} held s0' P' gb km fm x->(∀c,P' c->P c\/U.size<=c)->R w):Yr.c (aW gb) b.1 b.2.1 b.2.2.1 b.2.2.2.1 b.2.2.2.2 val U R:=by
 obtain⟨⟨s1,s2⟩,⟨Z,V⟩,⟨M,K,X⟩,⟨t,W⟩,S⟩:=bi;have N:=ZE (n:=b.2.1) O;have Y:(QA b:Int)*8=Yd b.2.1:=by unfold QA;omega
 refine Yr.o ?_;unfold Yr.v;refine nw (cs:=fC b) λv hz e J=>?_;refine Qz (a:=bO) (λ(z:Int) u=>∃(i:Nat) (s0':Sp) (P':Rg),z=8*(i:Int)/\i<=QA b/\Ext P v u/\bY u U.size (fC b)/\GP σ0 u L {H with sp:=iF H.sp ((List.range i).map λ(j:Nat)=>b.1+8*(j:Int)) λ_=>val} held s0' P' gb km fm x/\∀c,P' c->P c\/v.size<=c) (λz _=>(Yd b.2.1-z).toNat)
  ⟨0,s0,P,O,O,Ext.refl _ _,J,p.fr e,λc g=>.inl g⟩ ?_
 rintro(z:Int) u ⟨i,s0',P',rfl,hi,eu,hbu,pu,hP⟩;refine hbu.rI rfl (hbu.rI rfl (hbu.rI rfl (hbu.rI rfl (hbu.rI rfl (HR b O O λE e1=>?_)))));have m:=e1.bV hbu id;have y:=pu.fr e1;refine cP (λG=>?_) λF=>?_
 ·refine bL (y.b.rP rfl (m.fD rfl (ar O O (y.write gc _ val O λQ d P'' e2 B s=>?_))));have D:=e1.1;have A:=eu.1;refine ar O O ⟨⟨i+1,d,P'',O,O,Ext.dW (eu.fY e1) e2 hP,e2.bV m λC=>?_,?_,λc g=>?_⟩,O⟩
  ·rcases hP _ C with h|h
   ·have:=(p.pP _ h).2;omega
   ·omega
  ·rw[qQ,zo,List.map_singleton,DB];exact B
  ·rcases s c g with h|h
   ·exact hP c h
   ·exact .inr O
 ·have r:i=QA b:=by omega
  subst r;refine hR E _ _ ((aF.to e).trans (eu.fY e1)) y λc g=>?_;have:=e.1;exact(hP c g).imp id λh=>by omega
def jL (sp:Sp)(z:Int):Bool:=eM sp z != 0||QY sp z != ju z
def QT (sp:Sp)(b:B5):List Int:=(Zk b).filter (jL sp)
set_option maxRecDepth 16000 in
theorem Jm (p:GP σ0 U L H held s0 P gb km fm x)(bi:gK b){R:Sl->Hp->Prop}
 (hR:∀s w Q,aF U w->bT s 1 (Wy (QT H.sp b)) w Q->(∀c,Q c->U.size<=c/\c<w.size)->R s w):XM.c (aW gb) b.1 b.2.1 b.2.2.1 b.2.2.2.1 b.2.2.2.2 U R:=by
 refine XM.o ?_;unfold XM.v;refine nw (cs:=[.pointer (some ⟨gb,0,none⟩)]) λv1 hz1 e1 b1=>nw (cs:=fC b) λM hz2 e2 b2=>nw (cs:=[.slice none 0 0]) λv3 hz3 e3 b3=>?_;have y:=e3.bV b2 id;have aa:=(e2.trans e3).bV b1 id;refine y.rI rfl (y.rI rfl (y.rI rfl (y.rI rfl (y.rI rfl (Jh b λY hz4 W b4=>?_)))));have V:=((e1.trans e2).trans e3).trans W;have hzs:(Zk b).length<=100000:=by
  obtain⟨⟨s1,s2⟩,⟨b1,b2⟩,⟨z1,z2,z3⟩,⟨t,t2⟩,hm⟩:=bi;have hw:=ZE (n:=b.2.1) O;rw[GL];unfold VK oy;omega
 refine⟨rfl,by kernel_rfl,Zk b,_,λk s=>aF U s/\bY s U.size [.pointer (some ⟨gb,0,none⟩)]/\bY s v3.size (fC b)/\∃(sl:Sl) (Q:Rg),bY s M.size [.slice sl.a sl.len sl.cap]/\bT sl 1 (Wy (((Zk b).take k).filter (jL H.sp))) s Q/\∀c,Q c->Y.size+2<=c/\c<s.size,En bi,?_,λk s h=>h.2.2.1,?_,?_,?_⟩
 ·rintro k s s' ⟨B,E,G,sl,Q,C,D,A⟩ e;have hz:=e.1;refine⟨Ext.dW B e λc d=>.inr O,e.bV E O,e.bV G O,sl,Q,e.bV C O,aI.bS D e λc _ S d=>?_,λc d=>?_⟩
  ·have:=A c S;omega
  ·have:=A c d;omega
 ·exact⟨V,(W).bV aa id,b4,⟨none,0,0⟩,λ_=>False,W.bV b3 id,⟨rfl,.inl ⟨rfl,rfl⟩⟩,λc d=>d.elim⟩
 ·rintro k z Z s ⟨B,E,G,sl,Q,C,D,A⟩ hsz;have zi:=HQ bi (zG Z);have N:=bi.base;have hm:=bi.m;have hkl:=(cY.1 Z).1;have ps:=p.fr B;have K:(Zk b).take (k+1)=(Zk b).take k++[z]:=by rw[kC,Z];rfl
  refine E.pY rfl (bL (ps.b.rP rfl (BW ps.h z O λv5 g=>?_)));have hz5:=g.1;refine KD (λr u=>u=v5/\r=jL H.sp z) (λr u ⟨hu,hr⟩=>?_) λJ hJ=>?_
  ·subst hu;have F:=aI.bP D g;have i:∀c,Q c->c≠Y.size/\c≠Y.size+1/\c≠U.size/\c≠v3.size/\c≠M.size:=λc d=>by have:=A c d;omega
   refine cO (λN=>?_) λN=>?_
   ·refine(g.bV C id).wg rfl (xC F ?_ z λs' v8 e8 h8=>?_)
    ·have B:=pM (jL H.sp) ((Zk b).take k);rw[zY]at B;omega
    have hz8:=e8.1;have h48:=e8.bV (g.bV C id) λd=>(i _ d).2.2.2.2 rfl;refine h48.s0 aA λv9 o9 h9=>?_;have e9:=o9.ext;have hz9:=o9.1;have j:Ext (λc=>Q c\/c=M.size) u v9:=(e8.sub λc d=>.inl d).trans (e9.sub λc d=>.inr d);refine⟨⟨Ext.dW (B.trans g) j λc d=>?_,j.bV (g.bV E id) ?_,j.bV (g.bV G id) ?_,s',λc=>Q c\/u.size<=c/\c<v8.size,h9,?_,λc d=>?_⟩,?_,?_⟩
    ·rcases d with d|d
     ·have:=A c d;exact .inr O
     ·exact .inr O
    ·rintro(d|d)
     ·exact(i _ d).2.2.1 rfl
     ·omega
    ·rintro(d|d)
     ·exact(i _ d).2.2.2.1 rfl
     ·omega
    ·have:((Zk b).take (k+1)).filter (jL H.sp)=((Zk b).take k).filter (jL H.sp)++[z]:=by
      rw[K,xq,uf (by rw[←hr];exact N)];rfl
     rw[this];refine aI.bS h8 e9 λc _ d (hx:c=M.size)=>?_;rcases d with d|d
     ·exact(i _ d).2.2.2.2 hx
     ·omega
    ·rcases d with d|d
     ·have:=A c d;omega
     ·omega
    ·rw[j.2 _ O (by rintro(d|d);exact(i _ d).1 rfl;omega)];exact g.2 _ O id
    ·rw[j.2 _ O (by rintro(d|d);exact(i _ d).2.1 rfl;omega)];exact g.2 _ O id
   ·refine⟨⟨B.trans g,g.bV E id,g.bV G id,sl,Q,g.bV C id,?_,λc d=>?_⟩,g.2 _ O id,g.2 _ O id⟩
    ·have:((Zk b).take (k+1)).filter (jL H.sp)=((Zk b).take k).filter (jL H.sp):=by
      rw[K,xq,tM (by rw[←hr,N];decide),List.filter_nil,kE]
     rw[this];exact F
    ·have:=A c d;omega
  ·refine cO (λh=>hJ _ _ ⟨rfl,by unfold jL;rw[h];rfl⟩) λh=>Iv z O O (hJ _ _ ⟨rfl,by unfold jL;rw[h];rfl⟩)
 ·rintro s ⟨B,E,G,sl,Q,C,D,A⟩ hD;rw[lV]at D;refine C.wg rfl (FW hD λw X=>?_);have hz:=X.1;refine hR sl w Q (Ext.dW B X λc d=>.inr O) (aI.bS D X λc _ S d=>?_) λc d=>?_
  ·have:=A c S;omega
  ·have:=A c d;omega
end Go.Ar
namespace Go.Ar
open Go Go.Vc Go.Proofs
open Go.Vc (bU dA cN)
variable {U w w':Hp}{F P Q X:Rg}{L:dE}{H H':Hw}{held:List Pc}{s0:Sp}{t n:Nat}{g:Th}{σ0:Hp}{addrs:Sl}{ad:List Int}{l:Sl}{ds:List eW}
theorem gg.push (p:gg σ0 U L H held s0 P Q addrs ad){s':Sl}{x:Int}(e:Ext Q U w)(hr:bT s' 1 (Wy (ad++[x])) w (λb=>Q b\/U.size<=b/\b<w.size))(hl:(ad++[x]).length<=60):gg σ0 w L H held s0 P (λb=>Q b\/U.size<=b/\b<w.size) s' (ad++[x]):=by
 have j:=e.1;have g:=p.e.1;refine⟨Ext.dW p.e e λb a=>.inr (p.pQ b a).1,p.h.bS e (λb a d i=>(p.pQ b i).2.2 d) (λb a=>p.g0.1 b (p.pQ b a).1) (λa=>p.g0.2 (p.pQ _ a).1),p.hi,p.cf,p.pg,λb a=>⟨(p.pP b a).1,by have:=(p.pP b a).2;omega⟩,λb a=>?_,hr,hl,p.g0⟩;rcases a with a|a
 ·exact⟨(p.pQ b a).1,by have:=(p.pQ b a).2.1;omega,(p.pQ b a).2.2⟩
 ·exact⟨O,a.2,λd=>by have:=(p.pP b d).2;omega⟩
theorem Jo {tb:List cA}{size align:Int}{k:Nat}(h:gV tb size align=some k):∃c,tb[k]?=some c/\size<=(c.size:Int)/\(c.size:Int)%align=0:=by
 unfold gV at h;obtain⟨b,a,_⟩:=nK.1 h;simp only[zF,zV,zU]at a;exact⟨tb[k],cW b,a.1,a.2⟩
theorem Mj {tb:List cA}{size align:Int}(h:size<=16384/\Hl size align=true):size<=(pO tb size align).1/\(pO tb size align).2=0:=by
 unfold pO;rw[zC h];refine⟨?_,rfl⟩;cases hc:gV tb size align with
 | some k=>
  obtain⟨c,a,b,_⟩:=Jo hc;simp only;rw[zQ,a];exact b
 | none=>simp only;unfold yE;omega
theorem CT {live:List (Int×Bk)}{x:Int}(b:Bk):bU (dA live x b) x=some b:=by rw[UW,zC rfl]
end Go.Ar
namespace Go.Ar
open Go Go.Vc Go.Proofs
open Go.Vc (bU dA cN)
open Go.Bu (fA VN HD)
variable {size align:Int}{U σ0 v w w':Hp}{F P Q X T:Rg}{L:dE}{H H' H1:Hw}{held:List Pc}{s0 sp:Sp}{t n:Nat}{g:Th}{gb km fm m:Nat}{x y:Gu}{b:B5}
theorem _root_.Go.Vc.bY.s2 {U:Hp}{b o i j:Nat}{cs:List Value}(hb:bY U b cs){v:Value}(ho:o+i+j<cs.length){K:aP}(hK:∀h',Kb U h' b->bY h' b (cs.set (o+i+j) v)->K h'):dQ (Addr.add (Addr.add ⟨b,o,none⟩ i) j) v U K:=by
 rw[add_lit];exact hb.s1 ho hK
def Mg (P:Rg)(gb km fm:Nat):Rg:=λb=>P b\/b=gb\/b=km\/b=fm
def mB (size align:Int):Bool:=decide (1<=size/\size<=1024/\1<=align/\align<=256)&&fA align
def zA (align:Int):Int:=if 16>align then 16 else align
theorem yk {align:Int}(h:align<=256):16<=zA align/\zA align<=256:=by unfold zA;split<;>omega
structure vA (H:Hw) (x:Gu) (size align:Int) (b:B5) (H1:Hw):Prop where
 me:rG H (zA align+Yd size+16) (zA align) H1 b.2.2.1 0
 a:b.1=b.2.2.1+zA align
 s:b.2.1=size
 u:Kw H1 b.2.2.1=some b.2.2.2.1
 n:b.2.2.2.2=x.no+1
 ok:mB size align=true
 bi:gK b
def jT (sp:Sp)(b:B5):Sp:=iF (iF sp (Zk b) ju) (XC b) λ_=>0
def Gu.dZ (x:Gu)(b:B5):Gu:=⟨dA x.kn b.1 b,x.fr,x.no+1⟩
theorem Bj {a:Int}(h1:1<=a)(h2:a<=256)(hp:fA a=true):a%8=0\/a<8:=by
 by_cases h:a<8
 ·exact .inr h
 ·left;obtain⟨a,rfl⟩:=zc (show 0<=a by omega);rw[VN]at hp;have key:∀a:Nat,a<=256->8<=a->(a &&& (a-1)=0)->a%8=0:=by decide +kernel
  have:=key a O O (by have:=HD (a:=a) O O;rw[hp]at this;simpa using this);omega
theorem Wn4 (hi:HI H1 held s0)(hok:mB size align=true){base:Int}(me:rG H (zA align+Yd size+16) (zA align) H1 base 0):∃u,Kw H1 base=some u/\gK (base+zA align,size,base,u,x.no+1):=by
 unfold mB at hok;rw[zF,zV]at hok;obtain⟨⟨j,k2,k3,k4⟩,kp⟩:=hok;have s:=yk k4;have r:=ZE (n:=size) O;rcases me with⟨h,_⟩|⟨_,hm,hok,cl,hl,hcl⟩
 ·exact absurd rfl h
 have g:Kw H1 base=some (pO H.tb (zA align+Yd size+16) (zA align)).1:=by unfold Kw;rw[hl,CT];rfl
 have i:=(Mj (tb:=H.tb) ⟨hok.2.1,hok.2.2⟩).1;obtain⟨p,d,b⟩:=oH.1 g;have a:=hi.pn (ZY d);simp only at a;rw[b]at a;have m:zA align%8=0:=by
  unfold zA;split
  ·decide
  ·rcases Bj k3 k4 kp with h|h
   ·exact h
   ·omega
 exact⟨_,g,⟨⟨j,k2⟩,⟨a.2.1,a.2.2.1⟩,⟨by simp only;omega,by simp only;omega,by simp only;omega⟩,⟨by simp only;omega,a.2.2.2.1⟩,by simp only;omega⟩⟩
set_option maxRecDepth 16000 in
theorem SU (p:GP σ0 U L H held s0 P gb km fm x)(gc:Gc σ0)(x0:0<=x.no/\x.no<=100000)(thread size align:Int){R:Int->Int->Hp->Prop}
 (h0:∀w,mB size align=false->aF U w->R 0 1 w)
 (h1:∀e w ts H' held' s0' P',mB size align=true->e≠0->KN H thread 0 (zA align+Yd size+16) (zA align) 0 H' 0 e->fS H H'->H'.live=H.live->Ext P U w->GP σ0 w {L with ts:=ts} H' held' s0' P' gb km fm x->(∀c,P' c->P c\/U.size<=c)->R 0 e w)
 (h2:∀b w ts H1 held' s0' P',vA H x size align b H1->KN H thread 0 (zA align+Yd size+16) (zA align) 0 H1 b.2.2.1 0->fS H H1->Ext (Mg P gb km fm) U w->GP σ0 w {L with ts:=ts} {H1 with sp:=jT H1.sp b} held' s0' P' gb km fm (x.dZ b)->(∀c,P' c->P c\/U.size<=c)->R b.1 0 w) :
 Yb.c (aW gb) thread size align U R:=by
 refine Yb.o ?_;unfold Yb.v;rw[show(if(16:Int)>align then(16:Int)else align)=zA align from rfl]
 refine nw (cs:=[.pointer (some ⟨gb,0,none⟩)]) λv hz e hn4=>hn4.pY rfl (Ur (p.fr e) (cD rfl ?_));refine KD (λr u=>u=v/\r = !decide (1<=size/\size<=1024)) (λr u ⟨hu,hr⟩=>?_) λJ hJ=>cP (λh=>hJ _ _ ⟨rfl,by rw[zL O];rfl⟩) λh=>hJ _ _ ⟨rfl,?_⟩
 ·rw[hu];refine KD (λr u=>u=v/\r = !decide (1<=size/\size<=1024/\1<=align)) (λr1 u1 ⟨hu1,hr1⟩=>?_) λJ1 hJ1=>?_
  ·rw[hu1];refine KD (λr u=>u=v/\r = !decide (1<=size/\size<=1024/\1<=align/\align<=256)) (λr2 u2 ⟨hu2,hr2⟩=>?_) λJ2 hJ2=>?_
   ·rw[hu2];refine KD (λr u=>u=v/\r = !mB size align) (λr3 u3 ⟨hu3,hr3⟩=>?_) λJ3 hJ3=>?_
    ·rw[hu3];clear hr hr1 hr2 hu hu1 hu2 hu3;by_cases hgk:mB size align=true
     ·refine cD (by rw[hr3,hgk];rfl) ?_;have hk:=hgk;unfold mB at hk;rw[zF,zV]at hk;obtain⟨⟨k1,k2,k3,k4⟩,kp⟩:=hk;have hzz:=yk k4;have hww:=ZE (n:=size) O;refine nw (cs:=[.int .i64 0,.int .i64 0,.int .i64 0,.int .i64 0,.int .i64 0]) λv6 hz6 e6 b6=>?_;refine b6.s1 aA λv7 o7 b7=>b7.s1 aA λv8 o8 b8=>b8.s1 aA λv9 o9 b9=>b9.s1 aA λv10 gA b10=>b10.s1 aA λv11 o11 b11=>?_;have bb:bY v11 v.size (fC (0,size,0,0,0)):=b11;have eo:Ext (· = v.size) v6 v11:=(((o7.ext.trans o8.ext).trans o9.ext).trans gA.ext).trans o11.ext;have e11:aF v v11:=Ext.fresh e6 eo λi (hi:i=v.size)=>by omega
      have p11:=(p.fr e).fr e11;have W:=e11.bV hn4 id;have zv:U.size<v.size:=by omega
      have zb:=bb.lt;refine⟨λm=>bY m U.size [.pointer (some ⟨gb,0,none⟩)]/\bY m gb (tg L.p km fm x)/\bY m v.size (fC (0,size,0,0,0)),⟨W,p11.b,bb⟩,?_⟩;refine rZ (c:=.p) (y:=some ⟨gb,0,none⟩) (λm G=>G.1) rfl (bL (gM (c:=.p) (y:=some ⟨L.p,0,none⟩) (λm G=>G.2.1) rfl ?_));refine gM (c:=bO) (y:=0) (λm G=>G.2.2) rfl (gM (c:=bO) (y:=size) (λm G=>G.2.2) rfl (gM (c:=bO) (y:=0) (λm G=>G.2.2) rfl (gM (c:=bO) (y:=0) (λm G=>G.2.2) rfl (gM (c:=bO) (y:=0) (λm G=>G.2.2) rfl ?_))));refine HR (0,size,0,0,0) aC aC λv12 B=>⟨⟨B.bV W id,B.bV p11.b id,B.bV bb id⟩,?_⟩;refine ar aC aC (ar aC aC ?_);have p12:=p11.fr B;have e012:=(e.trans e11).trans B;have z1112:=B.1;obtain⟨H',a,er,hw,o,me⟩:=π p.hi thread (zA align+Yd size+16) (zA align);obtain⟨held',s0',hi'⟩:=o.hi;refine TO F7 p12.h p12.cf.2.2 hw λv13 ts F h13=>?_;have A:=p12.step F h13 hi' o.kp;have z12:=e012.1;have z13:=F.1;have nP:∀c,U.size<=c->¬P c:=λc h1 h2=>by have:=(p.pP c h2).2;omega
      have S:=F.bV (B.bV W id) (nP _ (zD _));have bb13:=F.bV (B.bV bb id) (nP _ O);refine⟨⟨S,F.bV p12.b p.sg.2,bb13⟩,?_⟩;generalize hP1:Cut (Grow P v12) v13=P1 at A;have E:∀c,P1 c->P c\/U.size<=c:=λc d=>by
       rw[←hP1]at d;exact d.1.imp id λh=>by omega
      have V:∀c,P1 c->c<v13.size:=λc d=>by rw[←hP1]at d;exact d.2
      have K:∀c,c<v12.size->¬P c->¬P1 c:=λc h1 h2 C=>by
       rw[←hP1]at C;rcases C.1 with h4|h4
       ·exact h2 h4
       ·omega
      have E13:Ext P U v13:=(aF.to e012).trans F;refine cO (λhne=>?_) λheq=>?_
      ·have hne':er≠0:=by simpa using hne
       rcases me with⟨_,ha,hl⟩|⟨h,_⟩
       ·subst ha;exact h1 er v13 ts H' held' s0' P1 hgk hne' hw o hl E13 A E
       ·exact absurd h hne'
      ·have he0:er=0:=by simpa using heq
       subst he0;obtain⟨u,hu,Y⟩:=Wn4 (x:=x) (size:=size) (align:=align) hi' hgk me;obtain⟨b,g⟩:∃b:B5,b=(a+zA align,size,a,u,x.no+1):=⟨_,rfl⟩;rw[←g]at Y;have hbs:=Y.base;have hbm:=Y.m;have hbz:=Y.z;have hbt:=Y.t;have hb1:b.1=a+zA align:=by rw[g]
       have hb2:b.2.1=size:=by rw[g]
       rw[hb2]at hbt;have X:b.2.2.1=a:=by rw[g]
       have hb4:b.2.2.2.1=u:=by rw[g]
       rw[X]at hbs;have gr:vA H x size align b H':=⟨by rw[X];exact me,by rw[hb1,X],by rw[g],by rw[X,hb4];exact hu,by rw[g],hgk,Y⟩;have hgb13:=A.b.lt;have hvg:v.size≠gb:=λh=>by have:=p.b.lt;omega
       have hsg:U.size≠gb:=λh=>by have:=p.b.lt;omega
       have hvk:v.size≠km:=λh=>by have:=p.m.lt;omega
       have hsk:U.size≠km:=λh=>by have:=p.m.lt;omega
       have hvf:v.size≠fm:=λh=>by have:=p.f.lt;omega
       refine S.pY rfl (bL (A.b.rI rfl (ar O O (bL (A.b.s1 (by simp[tg]) λQ D b14=>?_)))));have p14:GP σ0 Q {L with ts:=ts} H' held' s0' P1 gb km fm {x with no:=x.no+1}:=A.eV (D.ext.sub λc d=>.inl d) b14 (D.ext.fV A.m λ(h:km=gb)=>p.n1 h.symm) (D.ext.fV A.f λ(h:fm=gb)=>p.n2 h.symm);have hn14:=D.ext.bV S hsg;have bb14:=D.ext.bV bb13 hvg;refine hn14.pY rfl (bL (p14.b.rI rfl (ar O O ?_)));refine bb14.s1 (by simp[fC]) λv15 o15 b15=>b15.s2 (by simp[fC]) λv16 o16 b16=>b16.s2 (by simp[fC]) λv17 o17 b17=>?_;have e17:Ext (· = v.size) Q v17:=(o15.ext.trans o16.ext).trans o17.ext;have hout:∀c,c<Q.size->c=v.size->¬P1 c/\c≠gb/\c≠km/\c≠fm/\σ0.size<=c:=λc _ d=>by
        subst d;have:=p.e.1;exact⟨K _ O (nP _ O),hvg,hvk,hvf,O⟩
       have p17:=p14.out e17 hout;have hn17:=e17.bV hn14 (show ¬U.size=v.size by omega);refine hn17.pY rfl (bL (p17.b.rP rfl (EG p17.h a λv18 M=>?_)));rw[hu];refine(M.bV b17 id).s2 (by simp[fC]) λv19 o19 b19=>?_;have j:bY v19 v.size (fC b):=by rw[g];exact b19
       have p18:=p17.fr M;have z17:=o17.1;have z16:=o16.1;have z15:=o15.1;have z14:=D.1;have z18:=M.1;have z19:=o19.1;have p19:=p18.out o19.ext λc hc1 (d:c=v.size)=>by
        subst d;have:=p.e.1;exact⟨K _ O (nP _ O),hvg,hvk,hvf,O⟩
       have hn19:=o19.ext.bV (M.bV hn17 id) (show ¬U.size=v.size by omega);have E19:Ext (Mg P gb km fm) U v19:=by
        refine Ext.dW (((((E13.sub λc d=>.inl d).trans (D.ext.sub λc d=>.inr (.inl d))))):Ext (Mg P gb km fm) U Q) (((e17.trans (aF.to M)).trans o19.ext):Ext (· = v.size) Q v19) λc (d:c=v.size)=>.inr O
       refine j.rI rfl (j.rI rfl (j.rI rfl (j.rI rfl (j.rI rfl (Jh b λv20 hz20 N b20=>?_)))));have p20:=p19.fr N;have hn20:=N.bV hn19 id;have bb20:=N.bV j id;have z20:=N.1;have E20:Ext (Mg P gb km fm) U v20:=E19.fY N;refine⟨rfl,by kernel_rfl,Zk b,_,λk s=>Ext (Mg P gb km fm) U s/\v20.size<=s.size/\bY s U.size [.pointer (some ⟨gb,0,none⟩)]/\bY s v.size (fC b)/\bY s v19.size (fC b)/\∃(s0':Sp) (P':Rg),GP σ0 s {L with ts:=ts} {H' with sp:=iF H'.sp ((Zk b).take k) ju} held' s0' P' gb km fm {x with no:=x.no+1}/\∀c,P' c->P1 c\/v20.size+2<=c,En Y,?_,λk s h=>h.2.2.2.2.1,?_,?_,?_⟩
       ·rintro k s s' ⟨i1,i2,i3,i4,i5,s1',P',i6,i7⟩ es;have zs:=es.1;have nn:∀c,c<v20.size->¬(c=v20.size\/c=v20.size+1):=λc h=>by omega
        refine⟨Ext.dW i1 es λc d=>.inr O,O,es.bV i3 (nn _ O),es.bV i4 (nn _ O),es.bV i5 (nn _ O),s1',P',i6.out es λc _ d=>?_,i7⟩;have:=p.e.1;have g1:=p.b.lt;have g2:=p.m.lt;have g3:=p.f.lt;refine⟨λhx=>?_,O,O,O,O⟩;rcases i7 c hx with h|h
        ·have:=V c h;omega
        ·omega
       ·exact⟨E20,zD _,hn20,bb20,b20,s0',P1,p20,λc d=>.inl d⟩
       ·rintro k (z:Int) hk s ⟨i1,i2,i3,i4,i5,s1',P',i6,i7⟩ hsz;have zi:=HQ Y (zG hk);have hzk:0<=z/\z<=1000000:=by
         have z1:=zi.1;have z2:=zi.2.2.1;have h0:=Y.base.1;omega
        have htk:(Zk b).take (k+1)=(Zk b).take k++[z]:=by rw[kC,hk];rfl
        have Z:∀c,c<v20.size+2->(¬P1 c)->¬P' c:=λc h1 h2 C=>(i7 c C).elim h2 λh=>by omega
        have q1:¬P1 U.size:=K _ O (nP _ (zD _));have q2:¬P1 v.size:=K _ O (nP _ O);have q3:∀c,v13.size<=c->¬P1 c:=λc h1 h2=>by have:=V c h2;omega
        refine⟨λm=>bY m U.size [.pointer (some ⟨gb,0,none⟩)]/\bY m gb (tg L.p km fm {x with no:=x.no+1}),⟨i3,i6.b⟩,rZ (c:=.p) (y:=some ⟨gb,0,none⟩) (λm h=>h.1) rfl (bL (gM (c:=.p) (y:=some ⟨L.p,0,none⟩) (λm h=>h.2) rfl ?_))⟩;refine Iv z hzk.1 hzk.2 ⟨⟨i3,i6.b⟩,?_⟩;refine i6.write gc z (ju z) O λs2 s2' P2 e2 p2 hP2=>?_;have zs2:=e2.1;have i3':=e2.bV i3 (Z _ O q1);refine⟨⟨i3',p2.b⟩,⟨Ext.dW i1 e2 λc d=>?_,O,i3',e2.bV i4 (Z _ O q2),e2.bV i5 (Z _ O (q3 _ O)),s2',P2,?_,λc d=>?_⟩,e2.2 _ O (Z _ O (q3 _ O)),e2.2 _ O (Z _ O (q3 _ O))⟩
        ·rcases i7 c d with h|h
         ·exact(E c h).imp .inl id
         ·exact .inr O
        ·rw[htk,DB];exact p2
        ·rcases hP2 c d with h|h
         ·exact i7 c h
         ·exact .inr O
       ·rintro s ⟨i1,i2,i3,i4,i5,s1',P',i6,i7⟩ hD;rw[lV]at i6;have Z:∀c,c<v20.size+2->(¬P1 c)->¬P' c:=λc h1 h2 C=>(i7 c C).elim h2 λh=>by omega
        have q1:¬P1 U.size:=K _ O (nP _ (zD _));have q2:¬P1 v.size:=K _ O (nP _ O);have q3:∀c,v13.size<=c->¬P1 c:=λc h1 h2=>by have:=V c h2;omega
        refine i3.pY rfl (i4.rI rfl (i4.rI rfl (i4.rI rfl (i4.rI rfl (i4.rI rfl (FV i6 gc Y 0 λs2 s2' P2 e2 p2 hP2=>?_))))));have zs2:=e2.1;have hlt:=(kg.1 hD).1;have i3':=e2.bV i3 (Z _ O q1);have i4':=e2.bV i4 (Z _ O q2);have hS:∀m,(bY m U.size [.pointer (some ⟨gb,0,none⟩)]/\bY m gb (tg L.p km fm {x with no:=x.no+1})/\bY m v.size (fC b))->bY m v.size (fC b):=λm h=>h.2.2;refine⟨λm=>bY m U.size [.pointer (some ⟨gb,0,none⟩)]/\bY m gb (tg L.p km fm {x with no:=x.no+1})/\bY m v.size (fC b),⟨i3',p2.b,i4'⟩,rZ (c:=.p) (y:=some ⟨gb,0,none⟩) (λm h=>h.1) rfl (bL (gM (c:=.m) (y:=some km) (λm h=>h.2.1) rfl ?_))⟩;refine pL (c:=bO) (y:=b.1) hS rfl (gM (c:=bO) (y:=b.1) hS rfl (gM (c:=bO) (y:=b.2.1) hS rfl (gM (c:=bO) (y:=b.2.2.1) hS rfl (gM (c:=bO) (y:=b.2.2.2.1) hS rfl (gM (c:=bO) (y:=b.2.2.2.2) hS rfl ⟨km,x.kn,rfl,p2.m,λs3 o3 m3=>?_⟩)))));have p3:GP σ0 s3 {L with ts:=ts} {H' with sp:=jT H'.sp b} held' s2' P2 gb km fm (x.dZ b):=p2.eV (y:=x.dZ b) (o3.ext.sub λc d=>.inr (.inl d)) (o3.ext.bV p2.b p.n1) m3 (o3.ext.fV p2.f λ(h:fm=km)=>p.n3 h.symm);have zs3:=o3.1;have hkm:=p.m.lt;have hfm:=p.f.lt;have hgb:=p.b.lt;have hD3:s3[v20.size]?=some (.deferred (some [])):=(o3.2 _ O).trans ((e2.2 _ hlt (Z _ O (q3 _ O))).trans hD);refine(o3.ext.bV i4' hvk).fD rfl (FW hD3 λs4 e4=>?_);have hP2':∀c,P2 c->P c\/U.size<=c:=λc d=>by
         rcases hP2 c d with h|h
         ·rcases i7 c h with h|h
          ·exact E c h
          ·exact .inr O
         ·exact .inr O
        refine h2 b s4 ts H' held' s2' P2 gr (by rw[X];exact hw) o ?_ (p3.out e4 λc _ (d:c=v20.size)=>?_) hP2'
        ·have E1:Ext (Mg P gb km fm) U s2:=Ext.dW i1 e2 λc d=>by
          rcases i7 c d with h|h
          ·exact(E c h).imp .inl id
          ·exact .inr O
         have E2:Ext (Mg P gb km fm) U s3:=E1.trans (o3.ext.sub λc d=>.inr (.inr (.inl d)));exact Ext.dW E2 e4 λc (d:c=v20.size)=>.inr O
        ·subst d;have:=p.e.1;refine⟨λhx=>?_,O,O,O,O⟩;rcases hP2 _ hx with h|h
         ·exact Z _ O (q3 _ O) h
         ·omega
     ·exact cE (by rw[hr3];simp[hgk]) (h0 v (by simpa using hgk) e)
    ·by_cases g:1<=size/\size<=1024/\1<=align/\align<=256
     ·refine cD (by rw[hr2,zI g];rfl) (ar O O (hJ3 _ _ ⟨rfl,?_⟩));rw[WkA g.2.2.1 g.2.2.2];unfold mB;rw[zI g];rfl
     ·refine cE (by rw[hr2,zL g];rfl) (hJ3 _ _ ⟨rfl,?_⟩);unfold mB;rw[zL g];rfl
   ·by_cases g:1<=size/\size<=1024/\1<=align
    ·refine cD (by rw[hr1,zI g];rfl) (hJ2 _ _ ⟨rfl,?_⟩);by_cases C:align>256
     ·rw[zI C,zL O];rfl
     ·rw[zL C,zI O];rfl
    ·exact cE (by rw[hr1,zL g];rfl) (hJ2 _ _ ⟨rfl,by rw[zL O];rfl⟩)
  ·by_cases g:1<=size/\size<=1024
   ·refine cD (by rw[hr,zI g];rfl) (hJ1 _ _ ⟨rfl,?_⟩);by_cases C:align<1
    ·rw[zI C,zL O];rfl
    ·rw[zL C,zI O];rfl
   ·exact cE (by rw[hr,zL g];rfl) (hJ1 _ _ ⟨rfl,by rw[zL O];rfl⟩)
 ·by_cases C:size>1024
  ·rw[zI C,zL O];rfl
  ·rw[zL C,zI O];rfl
end Go.Ar
namespace Go.Ar
open Go Go.Vc Go.Proofs Go.RowKit Go.Sort Go.Shelf Go.Lib
variable {U:Hp}{F Q:Rg}{s:Sl}{xs:List Int}
end Go.Ar
namespace Go.Ar
open Go Go.Vc Go.Proofs
open Go.Vc (bU dA cN)
variable {size align:Int}{U σ0 v w w':Hp}{F P Q X T:Rg}{L:dE}{H H' H1:Hw}{held:List Pc}{s0 sp:Sp}{t n:Nat}{g:Th}{gb km fm m:Nat}{x y:Gu}{b:B5}
def Ui:Int:=-1234567
def mf (H:Hw)(x:Gu)(thread addr:Int)(whole:Bool):Int:=
 if ZG H thread≠0 then ZG H thread else match bU x.kn addr with
 | none=>if(bU x.fr addr).getD false then 9 else 8
 | some b=>if UJ H b then 5 else if whole&&decide (0<(QT H.sp b).length)then 10 else 0
def Gu.gone (x:Gu)(addr:Int):Gu:=⟨cN x.kn addr,dA x.fr addr true,x.no⟩
def dP (H:Hw)(b:B5):Hw:={H with sp:=iF H.sp (XC b) λ_=>Ui}
set_option maxRecDepth 16000 in
theorem JZ (p:GP σ0 U L H held s0 P gb km fm x)(gc:Gc σ0)(xi:∀e∈x.kn,e.1=e.2.1/\gK e.2)(thread addr:Int)(whole:Bool){R:aN}
 (h0:∀w,mf H x thread addr whole≠0->aF U w->R (mf H x thread addr whole) w)
 (h1:∀b w ts H1 held' s0' P' e,bU x.kn addr=some b->mf H x thread addr whole=0->KN (dP H b) thread 1 0 0 b.2.2.1 H1 0 e->fS (dP H b) H1->nU (dP H b) thread b.2.2.1 H1 e->Ext (Mg P gb km fm) U w->GP σ0 w {L with ts:=ts} H1 held' s0' P' gb km fm (x.gone addr)->(∀c,P' c->P c\/U.size<=c)->R 0 w) :
 XQ.c (aW gb) thread addr whole U R:=by
 refine XQ.o ?_;unfold XQ.v;refine Ur p (cD rfl (Nc p thread λC e1=>?_));have p1:=p.fr e1;refine cO (λhne=>?_) λheq=>?_
 ·have hn:ZG H thread≠0:=by simpa using hne
  have he:mf H x thread addr whole=ZG H thread:=by unfold mf;rw[zC hn]
  have:=h0 C (by rw[he];exact hn) e1;rw[he]at this;exact this
 have hrd:ZG H thread=0:=by simpa using heq
 have a:mf H x thread addr whole=match bU x.kn addr with
  | none=>if(bU x.fr addr).getD false then 9 else 8
  | some b=>if UJ H b then 5 else if whole&&decide (0<(QT H.sp b).length)then 10 else 0:=by
  unfold mf;rw[zB (by rw[hrd];decide)]
 refine bL (p1.b.rM rfl ⟨x.kn,p1.m,?_⟩);refine nw (cs:=[.int .i64 0,.int .i64 0,.int .i64 0,.int .i64 0,.int .i64 0]) λv2 hz2 e2 b2=>b2.s1 aA λv3 o3 b3=>b3.s1 aA λv4 o4 b4=>b4.s1 aA λv5 o5 b5=>b5.s1 aA λv6 o6 b6=>b6.s1 aA λv7 o7 b7=>?_;have eo:Ext (· = C.size) v2 v7:=(((o3.ext.trans o4.ext).trans o5.ext).trans o6.ext).trans o7.ext;have e17:aF C v7:=Ext.fresh e2 eo λi (hi:i=C.size)=>by omega
 have D:=e1.trans e17;have p7:=p.fr D;have d:bY v7 C.size (fC ((bU x.kn addr).getD (0,0,0,0,0))):=b7;cases hk:bU x.kn addr with
 | none=>
  rw[hk]at a;simp only at a;refine KD (λr u=>u=v7/\r=(bU x.fr addr).getD false) (λr u ⟨hu,G⟩=>?_) λJ M=>cE rfl (bL (p7.b.rM rfl ⟨x.fr,p7.f,M _ _ ⟨rfl,rfl⟩⟩));rw[hu];refine cO (λh=>?_) λh=>cE rfl ?_
  ·rw[←G,h]at a;have:=h0 v7 (by rw[a];decide) D;rw[a]at this;exact this
  ·rw[←G,h]at a;have:=h0 v7 (by rw[a];decide) D;rw[a]at this;exact this
 | some b=>
  rw[hk]at a d;simp only at a;have d:bY v7 C.size (fC b):=d;have F:gK b:=(xi _ (ZY hk)).2;refine KD (λr u=>u=v7/\r=false) (λr u ⟨hu,G⟩=>?_) λJ M=>cD rfl (M _ _ ⟨rfl,rfl⟩);rw[hu];refine cD G (cD rfl (d.rI rfl (d.rI rfl (d.rI rfl (d.rI rfl (d.rI rfl (An p7 b λv9 e9=>?_)))))));have E:=D.trans e9;have p9:=p.fr E;have j:=e9.bV d id;refine cO (λhl=>?_) λhl=>?_
  ·rw[zC hl]at a;have:=h0 v9 (by rw[a];decide) E;rw[a]at this;exact this
  rw[zB (by rw[hl];decide)]at a;refine KD (λr u=>aF U u/\bY u C.size (fC b)/\r=(whole&&decide (0<(QT H.sp b).length))) (λr u ⟨K,A,G⟩=>?_) λJ M=>cO (λN=>?_) λN=>M _ _ ⟨E,j,by rw[N];rfl⟩
  ·refine cO (λh=>?_) λh=>?_
   ·rw[←G,zC h]at a;have:=h0 u (by rw[a];decide) K;rw[a]at this;exact this
   ·rw[←G,zB (by rw[h];decide)]at a;have pu:=p.fr K;have zu:=K.1;have z1:=e1.1;refine A.rI rfl (A.rI rfl (A.rI rfl (A.rI rfl (A.rI rfl (FV pu gc F (-1234567) λu1 W P1 ef V X=>?_)))));have nP:¬P C.size:=λhx=>by have:=(p.pP _ hx).2;omega
    have hb1:=ef.bV A nP;have zf:=ef.1;refine bL (V.b.rM rfl ⟨x.kn,V.m,λu2 o2 _ m2=>?_⟩);have o2:=o2 km rfl;have S:GP σ0 u2 L (dP H b) held W P1 gb km fm ⟨cN x.kn addr,x.fr,x.no⟩:=V.eV (y:=⟨cN x.kn addr,x.fr,x.no⟩) (o2.ext.sub λc g=>.inr (.inl g)) (o2.ext.bV V.b p.n1) m2 (o2.ext.fV V.f λ(h:fm=km)=>p.n3 h.symm);refine bL (S.b.rM rfl ⟨fm,x.fr,rfl,S.f,λu3 B m3=>?_⟩);have Y:GP σ0 u3 L (dP H b) held W P1 gb km fm (x.gone addr):=S.eV (y:=x.gone addr) (B.ext.sub λc g=>.inr (.inr g)) (B.ext.bV S.b p.n2) (B.ext.fV S.m p.n3) m3;have hkm:=p.m.lt;have hfm:=p.f.lt;have hb3:=B.ext.bV (o2.ext.bV hb1 (show ¬C.size=km by omega)) (show ¬C.size=fm by omega);obtain⟨H',er,N,o,fe⟩:=WgH Y.hi thread b.2.2.1 (by have:=F.base;have:=F.m;have:=F.t;have:=F.z;have:=F.s;have:=ZE (n:=b.2.1) O;unfold iN;omega);obtain⟨held',s0',hi'⟩:=o.hi;refine bL (Y.b.rP rfl (hb3.fD rfl (Ss F7 Y.h Y.cf.2.2 N λu4 ts Z h4=>?_)));have p5:=Y.step Z h4 hi' o.kp;have z2:=o2.1;have z3:=B.1;have z4:=Z.1;refine h1 b u4 ts H' held' s0' _ er hk a N o fe ?_ p5 λc g=>?_
    ·have E1:Ext (Mg P gb km fm) U u1:=(aF.to K).trans (ef.sub λc g=>.inl g);have E3:Ext (Mg P gb km fm) U u3:=(E1.trans (o2.ext.sub λc g=>.inr (.inr (.inl g)))).trans (B.ext.sub λc g=>.inr (.inr (.inr g)));exact Ext.dW E3 Z λc g=>(X c g).imp .inl λh=>by omega
    ·rcases g.1 with g|g
     ·exact(X c g).imp id λh=>by omega
     ·exact .inr O
  ·refine j.rI rfl (j.rI rfl (j.rI rfl (j.rI rfl (j.rI rfl (Jm p9 F λs u Q K hs hQ=>M _ _ ⟨E.trans K,K.bV j id,?_⟩)))));have:s.len=(QT H.sp b).length:=by have:=hs.1;simp[Wy]at this;omega
   rw[N,this,qT,kW,decide_eq_true_iff,decide_eq_true_iff];omega
def k9 (H:Hw)(x:Gu)(addr:Int):Int:=match bU x.kn addr with
 | none=>8
 | some b=>if UJ H b then 5 else 0
def wB (H:Hw)(x:Gu)(addr:Int):List Int:=match bU x.kn addr with
 | none=>[]
 | some b=>if UJ H b then[]else QT H.sp b
set_option maxRecDepth 16000 in
theorem Eu (p:GP σ0 U L H held s0 P gb km fm x)(xi:∀e∈x.kn,e.1=e.2.1/\gK e.2)(addr:Int){R:Sl->Int->Hp->Prop}
 (hR:∀s w Q,aF U w->bT s 1 (Wy (wB H x addr)) w Q->(∀c,Q c->U.size<=c/\c<w.size)->R s (k9 H x addr) w):X1.c (aW gb) addr U R:=by
 refine X1.o ?_;unfold X1.v;refine Ur p (cD rfl (bL (p.b.rM rfl ⟨x.kn,p.m,?_⟩)));refine nw (cs:=[.int .i64 0,.int .i64 0,.int .i64 0,.int .i64 0,.int .i64 0]) λz B e2 W=>W.s1 aA λv3 o3 D=>D.s1 aA λZ o4 b4=>b4.s1 aA λY o5 J=>J.s1 aA λv6 o6 G=>G.s1 aA λv7 o7 C=>?_;have S:Ext (· = U.size) z v7:=(((o3.ext.trans o4.ext).trans o5.ext).trans o6.ext).trans o7.ext;have r:aF U v7:=Ext.fresh e2 S λi (hi:i=U.size)=>by omega
 have V:=p.fr r;have a:bY v7 U.size (fC ((bU x.kn addr).getD (0,0,0,0,0))):=C;have nil:∀w,bT ⟨none,0,0⟩ 1 (Wy []) w (λ_=>False):=λw=>⟨rfl,.inl ⟨rfl,rfl⟩⟩;unfold k9 wB at hR;cases hk:bU x.kn addr with
 | none=>
  rw[hk]at hR;exact cE rfl (hR _ v7 _ r (nil _) λc h=>h.elim)
 | some b=>
  rw[hk]at a hR;simp only at hR;have a:bY v7 U.size (fC b):=a;have F:gK b:=(xi _ (ZY hk)).2;refine cD rfl (a.rI rfl (a.rI rfl (a.rI rfl (a.rI rfl (a.rI rfl (An V b λX y=>?_))))));have g:=r.trans y;have E:=p.fr g;have d:=y.bV a id;refine cO (λj=>?_) λj=>?_
  ·rw[j]at hR;exact hR _ X _ g (nil _) λc h=>h.elim
  ·rw[j]at hR;refine d.rI rfl (d.rI rfl (d.rI rfl (d.rI rfl (d.rI rfl (Jm E F λs u Q N A M=>?_)))));have:=g.1;exact hR s u Q (g.trans N) A λc K=>by have:=M c K;omega
def IJ (H:Hw)(e:Int×B5):List Int:=if UJ H e.2 then[]else QT H.sp e.2
def Lw (H:Hw)(x:Gu):List Int:=x.kn.flatMap (IJ H)
end Go.Ar
namespace Go.Proofs
open Go.Shelf
end Go.Proofs
namespace Go.Ar
open Go Go.Vc Go.Proofs Go.RowKit Go.Maps Go.Sort Go.Shelf
open Go.Vc (bU dA cN)
open Go.Bu (lb HZ Uf HN VO yR)
variable {U w w':Hp}{F P Q X S:Rg}{L:dE}{H H':Hw}{held:List Pc}{s0 sp:Sp}{t n:Nat}{g:Th}{σ0:Hp}
def lM (b:Bk):List Value:=[.int .i64 b.1,.int .i64 b.2.1,.int .i64 b.2.2.1,.int .i64 b.2.2.2]
def jo (bs:List Bk):List Value:=bs.flatMap lM
theorem Cn (bs:List Bk):(jo bs).length=bs.length*4:=by
 unfold jo
 induction bs with
 | nil=>rfl
 | cons b bs ih=>rw[nY,zK,ih];simp[lM];omega
theorem BD:∀{bs:List Bk} {i:Nat} {b:Bk},bs[i]?=some b->∀{j:Nat} {v:Value},(lM b)[j]?=some v->(jo bs)[4*i+j]?=some v
 | [],i,b,h,_,_,_=>by simp at h
 | a::bs,0,b,h,j,v,hv=>by
  simp only[Bd,Option.some.injEq]at h;subst h;have hj:=(cY.1 hv).1;show(lM a++jo bs)[4*0+j]?=_;rw[show 4*0+j=j by omega,zd hj];exact hv
 | a::bs,i+1,b,h,j,v,hv=>by
  have d:=BD (bs:=bs) (i:=i) (b:=b) (by simpa using h) hv;show(lM a++jo bs)[4*(i+1)+j]?=_;rw[zr (by simp[lM];omega)];have:4*(i+1)+j-(lM a).length=4*i+j:=by simp[lM];omega
  rw[this];exact d
theorem cV.uh {B:Nat}{s:Sl}{xs:List Value}(h:lb B U s xs):cV s 1 xs U (λb=>B<=b):=by
 refine⟨by have:=h.1;omega,?_⟩;rcases h.2 with⟨h0,_⟩|⟨b,cs,hb,ha,hk,hc⟩
 ·exact .inl h0
 ·exact .inr ⟨b,0,cs,hb,ha,hk.q,λj a=>by rw[zH];exact hc j a⟩
theorem Cw {s:Sl}{bs:List Bk}(hs:cV s 4 (jo bs) U F){i:Nat}{b:Bk}(hb:bs[i]?=some b){K:Addr->Prop}(hK:∀bb o,(∀(j:Nat) v,(lM b)[j]?=some v->cell U ⟨bb,o+j,none⟩=some v)->K ⟨bb,o,none⟩):Ix s.a s.len (i:Int) 4 K:=by
 have r:=(cY.1 hb).1;have w:s.len=bs.length:=by have:=hs.1;rw[Cn]at this;omega
 obtain⟨bb,o,g,u⟩:=hs.cell (BD hb (j:=0) rfl);rw[g];refine ix O O ?_;rw[add_lit,dH];refine hK bb _ λj v p=>?_;obtain⟨x,y,d,m⟩:=hs.cell (BD hb p);rw[g]at d;cases d;rw[←m];congr 2;omega
end Go.Ar
namespace Go.Proofs
open Go.Shelf
def Tryz.ie:Go.Shelf.Ren:=⟨fun|7=>67|10=>113|n=>n,fun|23=>72|26=>3|3=>106|28=>116|0=>0|27=>115|33=>118|4=>4|n=>n,fun|n=>n⟩
theorem Tryz.lz:Go.Proofs.SlLaysZI.n7 Tryz.prog Tryz.ie:={
 mixed:=by kernel_rfl
 f7:=⟨Tryz.f67.name,by decide,Tryz.func67.trans (congrArg some (by kernel_rfl))⟩
 f10:=⟨Tryz.f113.name,by decide,Tryz.func113.trans (congrArg some (by kernel_rfl))⟩
 t0:=Tryz.underlying0
 a0:=Tryz.isAgg0
 z0:=Tryz.sizeOf0
 v0:=Tryz.zeroValue0
 t4:=Tryz.underlying4
 a4:=Tryz.isAgg4
 z4:=Tryz.sizeOf4
 v4:=Tryz.zeroValue4
 t23:=Tryz.underlying72
 a23:=Tryz.isAgg72
 z23:=Tryz.sizeOf72
 v23:=Tryz.zeroValue72
 t26:=Tryz.underlying3
 a26:=Tryz.isAgg3
 z26:=Tryz.sizeOf3
 v26:=Tryz.zeroValue3
 t27:=Tryz.underlying115
 a27:=Tryz.isAgg115
 z27:=Tryz.sizeOf115
 v27:=Tryz.zeroValue115
 t28:=Tryz.underlying116
 a28:=Tryz.isAgg116
 z28:=Tryz.sizeOf116
 v28:=Tryz.zeroValue116
 t33:=Tryz.underlying118
 a33:=Tryz.isAgg118
 z33:=Tryz.sizeOf118
 v33:=Tryz.zeroValue118}
end Go.Proofs
namespace Go.Proofs
open Go.Vc
set_option maxRecDepth 100000
def XK.h:Hn:=.q .o1 (.q (.q .o5 .aK) (.q (.q .o1 (.k (.loop [(5,.I)] (.q (.q .o4 (.c .l .l)) (.q (.k (.q (.oq 9) .aK)) .o3))))) .aM))
def XK.v (a b:Sl)(c:Hp)(d:aO):Prop:=If (((a.len:Nat):Int) != ((b.len:Nat):Int)) (d false c) (Yf [bO] (λe=>e 0 c) λf (g:Int) h=>If (g<((a.len:Nat):Int)) (Ix a.a a.len g 1 λi=>bN i h λj=>Ix b.a b.len g 1 λk=>bN k h λl=>If (j != l) (d false h) (bM (g+1) λm=>f m h)) (d true h))
theorem XK.o {a b c d}(e:XK.v a b c d):XK.c a b c d:=Wa Tryz.func19 (x:=XK.h) (R0 e)
def Y6.h:Hn:=.q .o1 (.q .o6 .l)
def Y6.v (a:Int)(b:Hp)(c:aN):Prop:=bM (a+8) λd=>bM (d-1) λe=>Nz 8<|bM (e.tdiv 8) λf=>bM (f*8) λg=>c g b
theorem Y6.o {a b c}(d:Y6.v a b c):Y6.c a b c:=Wa Tryz.func28 (x:=Y6.h) (R0 d)
end Go.Proofs
namespace Go.Ar
open Go Go.Vc Go.Proofs Go.RowKit Go.Maps Go.Sort Go.Shelf
open Go.Vc (bU dA cN)
open Go.Bu (lb HZ Uf HN VO yR)
variable {size align:Int}{U σ0 v w w':Hp}{F P Q X T:Rg}{L:dE}{H H' H1:Hw}{held:List Pc}{s0 sp:Sp}{t n:Nat}{g:Th}{gb km fm m:Nat}{x y:Gu}{b:B5}
theorem BV {k:IntKind}{c:CK}{l:List (Int×c.T)}{r:Nat}{a a':CK}{x0:a.T}{y0:a'.T}{A:a.T->a'.T->Hp->Prop}{body:Int->c.T->a.T->a'.T->Hp->(a.T->a'.T->Hp->Prop)->Prop}(hm:dK U r k c l)(I:List (Int×c.T)->a.T->a'.T->Hp->Prop)
 (h0:∀v,v.size=U.size+1->aF U v->I l x0 y0 v)
 (hend:∀z y v,I [] z y v->A z y v)
 (hstep:∀todo n x z y v v' (J:a.T->a'.T->Hp->Prop),I todo z y v->(n,x)∈todo->Kb v v' U.size->U.size<v.size->(∀z' y' w,w[U.size]?=v'[U.size]?->w[r]?=v'[r]?->I (todo.filter λy=>!(y.1==n)) z' y' w->J z' y' w)->body n x z y v' J) :
 oU k c (some r) U λit v3=>Yf [a,a'] (λI=>I x0 y0 v3) λJ1 z y v4=>pC k c it v4 (A z y v4) λ_ _ v5=>oP k c it v5 λkey1 val1=>body key1 val1 z y v5 J1:=by
 refine⟨l,hm,λv Q P hi=>?_⟩;have L:aF U v:=⟨O,λb B _=>P b B⟩;refine UI (a:=a) (bb:=a') (λz y w=>∃todo d,It w U.size k c (some r) l todo d/\I todo z y w/\U.size<w.size) (λ_ _ w=>yl w U.size r) ⟨l,none,hi,h0 v Q L,O⟩ ?_;rintro z y w ⟨todo,d,j,D,s⟩;refine⟨rfl,some r,l,todo,d,j,λM=>?_,λn x E N G i=>?_⟩
 ·subst M;exact hend z y w D
 ·refine⟨rfl,some r,l,_,n,x,i,hstep todo n x z y w N _ D E G s λz' y' u m C p=>?_⟩;have g:=i.bS m C;refine⟨⟨_,_,g,p,?_⟩,?_⟩
  ·obtain⟨R,K,F,H,_⟩:=g;exact(kg.1 H).1
  ·rw[g.num,j.num];exact C8.2 ⟨(n,x),E,by simp⟩
def lU (ofV:B5->Int)(addr:Int)(b:B5):Prop:=b.1<=addr/\addr<b.1+ofV b
instance (ofV:B5->Int) (addr:Int) (b:B5):Decidable (lU ofV addr b):=by unfold lU;infer_instance
set_option maxRecDepth 16000 in
theorem JC (p:GP σ0 U L H held s0 P gb km fm x)(xi:∀e∈x.kn,e.1=e.2.1/\gK e.2)(addr:Int){ofv:Fv}{ofV:B5->Int}(hov:∀b,gK b->0<=ofV b/\ofV b<=100000)
 (hof:∀(b:B5) (u:Hp) (K:aN),gK b->(∀u',aF u u'->K (ofV b) u')->VJ Tryz.prog ofv [.agg #[.int .i64 b.1,.int .i64 b.2.1,.int .i64 b.2.2.1,.int .i64 b.2.2.2.1,.int .i64 b.2.2.2.2]] [.one bO] u K)
 {R:Int->Int->Int->Int->Int->Bool->Hp->Prop}
 (h0:∀(b:B5) w,aF U w->(∀e∈x.kn,¬lU ofV addr e.2)->R b.1 b.2.1 b.2.2.1 b.2.2.2.1 b.2.2.2.2 false w)
 (h1:∀e w,aF U w->e∈x.kn->lU ofV addr e.2->R e.2.1 e.2.2.1 e.2.2.2.1 e.2.2.2.2.1 e.2.2.2.2.2 true w) :
 Zt.c (aW gb) addr ofv U R:=by
 refine Zt.o ?_;unfold Zt.v;refine nw (cs:=fC (0,0,0,0,0)) λv hz e b6=>nw (cs:=fC (0,0,0,0,0)) λv1 hz1 e1 b8=>?_;have e01:=e.trans e1;have p1:=p.fr e01;refine bL (p1.b.rM rfl ?_);refine BV (a:=.b) (a':=.b) p1.m (λg (d E:Bool) u=>aF U u/\v1.size<u.size/\bY u U.size (fC (0,0,0,0,0))/\(∀e∈g,e∈x.kn)/\∃iR:B5,bY u v.size (fC iR)/\(d=false->∀e∈x.kn,e∈g\/¬lU ofV addr e.2)/\(d=true->∃e∈x.kn,e.2=iR/\lU ofV addr e.2))
  (λu hu Z=>⟨e01.trans Z,O,Z.bV (e1.bV b6 id) id,λe D=>D,(0,0,0,0,0),Z.bV b8 id,λ_ e D=>.inl D,λh=>by cases h⟩) ?_ ?_
 ·rintro(d:Bool) (E:Bool) u ⟨Z,hlt,hb6,_,iR,C,hf0,hf1⟩;refine C.rI rfl (C.rI rfl (C.rI rfl (C.rI rfl (C.rI rfl ?_))));refine hb6.s1 (by simp[fC]) λv3 o3 b3=>b3.s1 (by simp[fC]) λv4 o4 b4=>b4.s1 (by simp[fC]) λv5 o5 b5=>b5.s1 (by simp[fC]) λv6 o6 b6=>b6.s1 (by simp[fC]) λv7 o7 b7=>?_;have eo:Ext (· = U.size) u v7:=(((o3.ext.trans o4.ext).trans o5.ext).trans o6.ext).trans o7.ext;have e7:aF U v7:=Ext.fresh Z eo λi (hi:i=U.size)=>by omega
  have A:bY v7 U.size (fC iR):=b7;refine A.rI rfl (A.rI rfl (A.rI rfl (A.rI rfl (A.rI rfl ?_))));cases d with
  | false=>exact h0 iR v7 e7 λe D=>(hf0 rfl e D).resolve_left aA
  | true=>
   obtain⟨e,D,rfl,M⟩:=hf1 rfl;exact h1 e v7 e7 D M
 ·rintro g k (b:B5) (d:Bool) (E:Bool) u u' J ⟨Z,hlt,hb6,F,iR,C,hf0,hf1⟩ S o1 hs1 hJ;have bi:gK b:=(xi _ (F _ S)).2;have ov:=hov b bi;have zu:=Z.1;have hz':=o1.1;have hbm:=bi.m;have hbz:=bi.z;have hbb:=bi.base;have hbt:=bi.t;have hbs:=bi.s;have hww:=ZE (n:=b.2.1) O;have eu':aF U u':=Ext.fresh Z o1.ext λc (hc:c=v1.size)=>by omega
  have aa:=o1.ext.bV hb6 (show ¬U.size=v1.size by omega);have X:=o1.ext.bV C (show ¬v.size=v1.size by omega);have hkm:=p.m.lt;refine nw (cs:=fC (0,0,0,0,0)) λv2 hz2 e2 b2=>b2.s1 (by simp[fC]) λv3 o3 b3=>b3.s1 (by simp[fC]) λv4 o4 b4=>b4.s1 (by simp[fC]) λv5 o5 b5=>b5.s1 (by simp[fC]) λv6 o6 b6=>b6.s1 (by simp[fC]) λv7 o7 b7=>?_;have eo:Ext (· = u'.size) v2 v7:=(((o3.ext.trans o4.ext).trans o5.ext).trans o6.ext).trans o7.ext;have e7:aF u' v7:=Ext.fresh e2 eo λi (hi:i=u'.size)=>by omega
  have A:bY v7 u'.size (fC b):=b7;have W:∀{w:Hp},aF u' w->w[v1.size]?=u'[v1.size]?/\w[km]?=u'[km]? := λe=>⟨e.2 _ O id,e.2 _ O id⟩;have Q:∀e∈g.filter (λy=>!(y.1==k)),e∈x.kn:=λe D=>F e (zJ.1 D).1;have hkb:∀e∈x.kn,e∈g->e∈g.filter (λy=>!(y.1==k))\/e=(k,b):=λe D ht=>by
   by_cases hk:e.1=k
   ·right;have h1:=Qe p.m.nodup (show(e.1,e.2)∈x.kn from D);have h2:=Qe p.m.nodup (F _ S);rw[hk,h2]at h1;exact Prod.ext hk (Option.some.inj h1).symm
   ·exact .inl (zJ.2 ⟨ht,by simpa using hk⟩)
  have same:∀w,aF u' w->(d=false->¬lU ofV addr b)->J d E w:=λw ew hnb=>by
   have zw:=ew.1;refine hJ d E w (W ew).1 (W ew).2 ⟨eu'.trans ew,O,ew.bV aa id,Q,iR,ew.bV X id,λB e D=>?_,hf1⟩;rcases hf0 B e D with h|h
   ·rcases hkb e D h with h|rfl
    ·exact .inl h
    ·exact .inr (hnb B)
   ·exact .inr h
  refine Bg (λr u2=>aF u' u2/\bY u2 u'.size (fC b)/\r = !decide (lU ofV addr b)) (λr u2 ⟨eu2,G,hr⟩=>?_) λJ1 hJ1=>?_
  ·by_cases M:lU ofV addr b
   ·refine cD (by rw[hr,zI M];rfl) ?_;have pu:=(p.fr eu').fr eu2;refine G.rI rfl (G.rI rfl (G.rI rfl (G.rI rfl (G.rI rfl (An pu b λV e17=>?_)))));have E17:=eu2.trans e17;have j:=e17.bV G id;have h617:=E17.bV aa id;have Y:=E17.bV X id;refine KD (λr u3=>u3=V/\(d=false->r=true)) (λr u3 ⟨hu3,hr3⟩=>?_) λJ2 hJ2=>?_
    ·rw[hu3];refine KD (λr1 u4=>u4=V/\(d=false->r1=true)) (λr1 u4 ⟨hu4,hr4⟩=>?_) λJ3 hJ3=>?_
     ·rw[hu4];refine cO (λh1=>?_) λh1=>same V E17 λB=>by rw[hr4 B]at h1;cases h1
      refine j.rI rfl (j.rI rfl (j.rI rfl (j.rI rfl (j.rI rfl ?_))));refine Y.s1 (by simp[fC]) λw3 q3 c3=>c3.s1 (by simp[fC]) λw4 q4 c4=>c4.s1 (by simp[fC]) λw5 q5 c5=>c5.s1 (by simp[fC]) λw6 q6 c6=>c6.s1 (by simp[fC]) λw7 q7 c7=>?_;have qo:Ext (· = v.size) V w7:=(((q3.ext.trans q4.ext).trans q5.ext).trans q6.ext).trans q7.ext;have c7':bY w7 v.size (fC b):=c7;have z17:=E17.1;have zq:=qo.1;refine hJ true _ w7 ?_ ?_ ⟨Ext.fresh (eu'.trans E17) qo λc (hc:c=v.size)=>O,O,qo.bV h617 (show ¬U.size=v.size by omega),Q,b,c7',λh=>(by cases h),λ_=>⟨(k,b),F _ S,rfl,M⟩⟩
      ·rw[qo.2 _ O (show ¬v1.size=v.size by omega)];exact(W E17).1
      ·rw[qo.2 _ O (show ¬km=v.size by omega)];exact(W E17).2
     ·refine cO (λh=>hJ3 _ _ ⟨rfl,λ_=>rfl⟩) λh=>?_;have N:¬d=false:=λB=>by rw[hr3 B]at h;cases h
      exact bX.intro (cO (λ_=>j.rI rfl (Y.rI rfl (hJ3 _ _ ⟨rfl,λB=>(N B).elim⟩))) λ_=>hJ3 _ _ ⟨rfl,λB=>(N B).elim⟩)
    ·refine cO (λh=>hJ2 _ _ ⟨rfl,λ_=>rfl⟩) λh=>?_;have N:¬d=false:=λB=>by rw[B]at h;cases h
     exact bX.intro (cO (λ_=>hJ2 _ _ ⟨rfl,λB=>(N B).elim⟩) λ_=>hJ2 _ _ ⟨rfl,λB=>(N B).elim⟩)
   ·exact cE (by rw[hr,zL M];rfl) (same u2 eu2 λ_=>M)
  ·have hS:∀m,aF v7 m->bY m u'.size (fC b):=λm e=>e.bV A id;refine⟨λm=>aF v7 m,Ext.refl _ _,pL (c:=bO) (y:=b.1) hS rfl (cP (λh=>hJ1 _ _ ⟨e7,A,?_⟩) λh=>?_)⟩
   ·rw[zL];rfl;rintro⟨h1,_⟩;exact absurd h O
   ·refine pL (c:=bO) (y:=b.1) hS rfl (gM (c:=bO) (y:=b.1) hS rfl (gM (c:=bO) (y:=b.2.1) hS rfl (gM (c:=bO) (y:=b.2.2.1) hS rfl (gM (c:=bO) (y:=b.2.2.2.1) hS rfl (gM (c:=bO) (y:=b.2.2.2.2) hS rfl (hof b v7 _ bi λu3 e3=>⟨e3,ar O O (hJ1 _ _ ⟨e7.trans e3,e3.bV A id,?_⟩)⟩))))));rw[kW,mL,decide_eq_true_iff,decide_eq_false_iff_not];unfold lU;omega
theorem Δ (b:B5)(u:Hp)(K:aN)(bi:gK b)(hK:∀u',aF u u'->K (Yd b.2.1) u'):VJ Tryz.prog ⟨98,#[],#[]⟩ [.agg #[.int .i64 b.1,.int .i64 b.2.1,.int .i64 b.2.2.1,.int .i64 b.2.2.2.1,.int .i64 b.2.2.2.2]] [.one bO] u K:=by
 have:=bi.s;refine Gp (all := #[.agg #[.int .i64 b.1,.int .i64 b.2.1,.int .i64 b.2.2.1,.int .i64 b.2.2.2.1,.int .i64 b.2.2.2.2]]) (by kernel_rfl) aA ?_;exact HR b O O hK
theorem NJ (b:B5)(u:Hp)(K:aN)(bi:gK b)(hK:∀u',aF u u'->K b.2.1 u'):VJ Tryz.prog ⟨60,#[],#[]⟩ [.agg #[.int .i64 b.1,.int .i64 b.2.1,.int .i64 b.2.2.1,.int .i64 b.2.2.2.1,.int .i64 b.2.2.2.2]] [.one bO] u K:=by
 refine Gp (all := #[.agg #[.int .i64 b.1,.int .i64 b.2.1,.int .i64 b.2.2.1,.int .i64 b.2.2.2.1,.int .i64 b.2.2.2.2]]) (by kernel_rfl) aA ?_;refine Y3.o ?_;unfold Y3.v;exact nw (cs:=fC b) λv d e a=>a.fD rfl (hK v e)
def LC (addr:Int)(b:B5):Prop:=lU (λb=>Yd b.2.1) addr b
def IQ (addr:Int)(b:B5):Prop:=lU (λb=>b.2.1) addr b
def pH (H:Hw)(x:Gu)(addr e:Int):Prop:=(e=7/\((∀k∈x.kn,¬LC addr k.2)\/addr%8≠0))\/(∃k∈x.kn,LC addr k.2/\addr%8=0/\e=if UJ H k.2 then 5 else 0)
set_option maxRecDepth 16000 in
theorem Ly (p:GP σ0 U L H held s0 P gb km fm x)(xi:∀e∈x.kn,e.1=e.2.1/\gK e.2)(addr:Int){R:aN}(hR:∀e w,aF U w->pH H x addr e->R e w):Yo.c (aW gb) addr U R:=by
 refine Yo.o ?_;unfold Yo.v;have E:∀b,gK b->0<=Yd b.2.1/\Yd b.2.1<=100000:=λb A=>by have:=A.s;have:=ZE (n:=b.2.1) O;omega
 have box:∀{Z:Nat} {w:Hp} {F N C D M:Int} {K:Addr->Hp->Prop},(∀g,aF w g->bY g w.size (fC (F,N,C,D,M))->K ⟨w.size,0,none⟩ g) →
  Nw (.cells #[.int .i64 0,.int .i64 0,.int .i64 0,.int .i64 0,.int .i64 0] Z (0,0)) w λm V=>dQ (m.add 0) (.int .i64 F) V λv3=>dQ (m.add 1) (.int .i64 N) v3 λW=>dQ (m.add 2) (.int .i64 C) W λv5=>dQ (m.add 3) (.int .i64 D) v5 λv6=>dQ (m.add 4) (.int .i64 M) v6 λv7=>K m v7:=λ{Z w F N C D M K} hK=>
  nw (cs:=fC (0,0,0,0,0)) λV hz2 e2 b2=>b2.s1 (by simp[fC]) λv3 o3 b3=>b3.s1 (by simp[fC]) λW o4 b4=>b4.s1 (by simp[fC]) λv5 o5 b5=>b5.s1 (by simp[fC]) λv6 o6 b6=>b6.s1 (by simp[fC]) λv7 o7 d=>
   hK v7 (Ext.fresh e2 ((((o3.ext.trans o4.ext).trans o5.ext).trans o6.ext).trans o7.ext) λi (hi:i=w.size)=>O) d
 refine Ur p (cD rfl (JC p xi addr E Δ (λb w S hn=>?_) λk w S G j=>?_))
 ·refine box λg B d=>bX.intro (cE rfl (cE rfl (hR 7 g (S.trans B) (.inl ⟨rfl,.inl hn⟩))))
 ·refine box λg B d=>?_;have A:gK k.2:=(xi _ G).2;have h0:0<=addr:=by have:=j.1;have:=A.z;have:=A.base;omega
  have a:=S.trans B;refine KD (λr u=>u=g/\r=decide (addr%8≠0)) (λr u ⟨hu,X⟩=>?_) λJ hJ=>cD rfl (nz aB (hJ _ _ ⟨rfl,?_⟩))
  ·rw[hu];by_cases h8:addr%8≠0
   ·exact cE (by rw[X];exact zI h8) (hR 7 g a (.inl ⟨rfl,.inr h8⟩))
   ·refine cD (by rw[X];exact zL h8) (d.rI rfl (d.rI rfl (d.rI rfl (d.rI rfl (d.rI rfl (An (p.fr a) k.2 λY e9=>?_))))));have y:addr%8=0:=by omega
    refine cO (λQ=>hR 5 Y (a.trans e9) (.inr ⟨k,G,j,y,by rw[Q];rfl⟩)) λQ=>hR 0 Y (a.trans e9) (.inr ⟨k,G,j,y,by rw[Q];rfl⟩)
  ·rw[Q1 h0];by_cases h8:addr%8=0
   ·rw[h8];decide
   ·rw[zI h8];simpa using h8
theorem Wj4 (p:GP σ0 U L H held s0 P gb km fm x)(xi:∀e∈x.kn,e.1=e.2.1/\gK e.2)(addr:Int)(ha:addr<=9223372036854775807){R:Int->Int->Hp->Prop}(h0:∀e w,e≠0->aF U w->pH H x addr e->R 0 e w)(h1:∀w,aF U w->pH H x addr 0->R (QY H.sp addr) (eM H.sp addr) w):Y9.c (aW gb) addr U R:=by
 refine Y9.o ?_;unfold Y9.v;refine Ly p xi addr λe w g j=>cO (λa=>h0 e w (by simpa using a) g j) λd=>?_;have r:e=0:=by simpa using d
 subst r;have i:=p.fr g;exact bL (i.b.rP rfl (BW i.h addr ha λm e2=>h1 m (g.trans e2) j))
theorem MY (p:GP σ0 U L H held s0 P gb km fm x)(gc:Gc σ0)(xi:∀e∈x.kn,e.1=e.2.1/\gK e.2)(addr u:Int)(ha:addr<=9223372036854775807){R:aN}(h0:∀e w,e≠0->aF U w->pH H x addr e->R e w)
 (h1:∀w s0' P',pH H x addr 0->Ext P U w->GP σ0 w L {H with sp:=Zm H.sp addr u} held s0' P' gb km fm x->(∀c,P' c->P c\/U.size<=c)->R (eM H.sp addr) w):YN.c (aW gb) addr u U R:=by
 refine YN.o ?_;unfold YN.v;refine Ly p xi addr λe w a m=>cO (λi=>h0 e w (by simpa using i) a m) λd=>?_;have y:e=0:=by simpa using d
 subst y;have j:=p.fr a;have A:=a.1;exact bL (j.b.rP rfl (j.write gc addr u ha λz s2 P2 e2 s g=>h1 z s2 P2 m ((aF.to a).trans e2) s λc r=>(g c r).imp id λh=>O))
set_option maxRecDepth 16000 in
theorem MO (p:GP σ0 U L H held s0 P gb km fm x)(xi:∀e∈x.kn,e.1=e.2.1/\gK e.2)(addr:Int){R:Int->Int->Int->Int->Int->Hp->Prop}(h0:∀w,aF U w->(∀k∈x.kn,¬IQ addr k.2)->R 0 0 0 0 8 w)(h1:∀k w,aF U w->k∈x.kn->IQ addr k.2->R k.2.1 k.2.2.1 k.2.2.2.1 k.2.2.2.2.1 0 w):Yt.c (aW gb) addr U R:=by
 refine Yt.o ?_;unfold Yt.v;have G:∀b,gK b->0<=b.2.1/\b.2.1<=100000:=λb bi=>by have:=bi.s;omega
 refine nw (cs:=[.int .i64 0,.int .i64 0,.int .i64 0,.int .i64 0]) λv hz e b4=>?_;have j:∀{w:Hp} {a b c d:Int} {K:Int->Int->Int->Int->Hp->Prop},aF U w->bY w U.size [.int .i64 0,.int .i64 0,.int .i64 0,.int .i64 0]->(∀g,aF U g->K a b c d g) →
  dQ (Addr.add ⟨U.size,0,none⟩ 0) (.int .i64 a) w λv7=>dQ (Addr.add ⟨U.size,0,none⟩ 1) (.int .i64 b) v7 λv8=>dQ (Addr.add ⟨U.size,0,none⟩ 2) (.int .i64 c) v8 λv9=>dQ (Addr.add ⟨U.size,0,none⟩ 3) (.int .i64 d) v9 λv10=>
  gI .i64 (Addr.add ⟨U.size,0,none⟩ 0) v10 λr0=>gI .i64 (Addr.add ⟨U.size,0,none⟩ 1) v10 λr1=>gI .i64 (Addr.add ⟨U.size,0,none⟩ 2) v10 λr2=>gI .i64 (Addr.add ⟨U.size,0,none⟩ 3) v10 λr3=>K r0 r1 r2 r3 v10:=λr S W=>
  S.s1 aA λv1 o1 b1=>b1.s1 aA λC o2 Q=>Q.s1 aA λv3 o3 M=>M.s1 aA λA o4 b4=>b4.rI rfl (b4.rI rfl (b4.rI rfl (b4.rI rfl (W A ((((r.only o1 (.inr (zD _))).only o2 (.inr (zD _))).only o3 (.inr (zD _))).only o4 (.inr (zD _)))))))
 have box:∀{X:Nat} {w:Hp} {F N B E V:Int} {K:Addr->Hp->Prop},(∀z,aF w z->bY z w.size (fC (F,N,B,E,V))->K ⟨w.size,0,none⟩ z) →
  Nw (.cells #[.int .i64 0,.int .i64 0,.int .i64 0,.int .i64 0,.int .i64 0] X (0,0)) w λu C=>dQ (u.add 0) (.int .i64 F) C λv3=>dQ (u.add 1) (.int .i64 N) v3 λA=>dQ (u.add 2) (.int .i64 B) A λv5=>dQ (u.add 3) (.int .i64 E) v5 λZ=>dQ (u.add 4) (.int .i64 V) Z λv7=>K u v7:=λ{X w F N B E V K} W=>
  nw (cs:=fC (0,0,0,0,0)) λC hz2 e2 Q=>Q.s1 (by simp[fC]) λv3 o3 M=>M.s1 (by simp[fC]) λA o4 b4=>b4.s1 (by simp[fC]) λv5 o5 b5=>b5.s1 (by simp[fC]) λZ o6 b6=>b6.s1 (by simp[fC]) λv7 o7 m=>
   W v7 (Ext.fresh e2 ((((o3.ext.trans o4.ext).trans o5.ext).trans o6.ext).trans o7.ext) λi (hi:i=w.size)=>O) m
 have Y:=p.fr e;refine Ur Y (cD rfl (JC Y xi addr G NJ (λb w r hn=>?_) λk w r hk J=>?_))
 ·refine box λz y m=>cE rfl (j (K:=λa b c d g=>R a b c d 8 g) ((e.trans r).trans y) ((r.trans y).bV b4 id) λg D=>h0 g D hn)
 ·refine box λz y m=>cD rfl (m.fD rfl (m.fD rfl (m.fD rfl (m.fD rfl ?_))));exact j (K:=λa b c d g=>R a b c d 0 g) ((e.trans r).trans y) ((r.trans y).bV b4 id) λg D=>h1 k g D hk J
theorem yM (p:GP σ0 U L H held s0 P gb km fm x){R:Option Addr->Hp->Prop}(hR:R (some ⟨L.p,0,none⟩) U):XD.c (aW gb) U R:=by
 refine XD.o ?_;unfold XD.v;exact Ur p (cD rfl (bL (p.b.rP rfl hR)))
end Go.Ar
namespace Go.Ar
open Go Go.Vc Go.Proofs
open Go.Vc (bU dA cN)
variable {size align:Int}{U σ0 v w w':Hp}{F P Q X T:Rg}{L:dE}{H H' H1:Hw}{held:List Pc}{s0 sp:Sp}{t n:Nat}{g:Th}{gb km fm m:Nat}{x y:Gu}{b:B5}
theorem iI.wR {n m:Nat}{H H1 H2:Hw}{t:Nat}{p:Ph}{a1 e1 a2 e2:Int}(h:iI n H t p H1 a1 e1)(h':iI m H t p H2 a2 e2):H1=H2/\a1=a2/\e1=e2:=by
 induction h generalizing m with
 | done h1 h2=>
  cases h' with
  | done=>exact⟨rfl,rfl,rfl⟩
  | next _ h3 _=>rw[h2]at h3;cases h3
 | next h1 h2 _ ih=>
  cases h' with
  | done _ h3=>rw[h2]at h3;cases h3
  | next _ h3 h4=>rw[h2]at h3;cases h3;exact ih h4
theorem KN.wR {thread kind size align addr a1 e1 a2 e2:Int}{H1 H2:Hw}(h:KN H thread kind size align addr H1 a1 e1)(h':KN H thread kind size align addr H2 a2 e2):H1=H2/\a1=a2/\e1=e2:=by
 rcases h with⟨h1,_,rfl,rfl⟩|⟨t,p,n,h1,h2⟩
 ·rcases h' with⟨g1,_,rfl,rfl⟩|⟨_,_,_,g1,_⟩
  ·rw[h1]at g1;cases g1;exact⟨rfl,rfl,rfl⟩
  ·rw[h1]at g1;cases g1
 ·rcases h' with⟨g1,_⟩|⟨_,_,_,g1,g2⟩
  ·rw[h1]at g1;cases g1
  ·rw[h1]at g1;cases g1;exact h2.wR g2
theorem RR:uy w0 64:=by
 have h:=Jc (xs:=ri 8) (p:=64) (a:=1) (t:=1) (b:=1024) (r:=2) (GR 8 aB aB) aB;rw[yh]at h;exact h
theorem OX {a:Option Addr}{thread addr:Int}{R:aN}(h:XQ.c a thread addr true U R):Ze.c a thread addr U R:=Ze.o (by unfold Ze.v;exact h)
theorem UU (H:Hw)(thread:Int):UE H thread=if 0<=thread/\thread<(H.bR.length:Int)then fE H thread.toNat else none:=by
 unfold UE fE;split
 ·cases H.bR[thread.toNat]?<;>rfl
 ·rfl
theorem Ms (o:fS H H')(thread:Int):ZG H' thread=ZG H thread:=by
 unfold ZG;rw[UU,UU,o.kp.2.1,o.kp.2.2.1,o.ph]
theorem Ex {a b:Sl}{xs ys:List Int}{G:Rg}(ha:cV a 1 (Wy xs) U F)(hb:cV b 1 (Wy ys) U G)(hl:xs.length<=1000000000){R:aO}(hR:R (decide (xs=ys)) U):XK.c a b U R:=by
 refine XK.o ?_;unfold XK.v;have z:a.len=xs.length:=by have:=ha.1;simp[Wy]at this;omega
 have A:b.len=ys.length:=by have:=hb.1;simp[Wy]at this;omega
 rw[z,A,sv];refine cO (λw=>?_) λw=>?_
 ·have d:xs.length≠ys.length:=by simpa using w
  rw[zL λe=>d (by rw[e])]at hR;exact hR
 have J:xs.length=ys.length:=by simpa using w
 refine Qz (a:=bO) (λ(t:Int) v=>∃i:Nat,t=(i:Int)/\i<=xs.length/\v=U/\xs.take i=ys.take i) (λt _=>xs.length-t.toNat) ⟨0,rfl,O,rfl,rfl⟩ ?_;rintro t v ⟨i,rfl,hi,rfl,j⟩;refine cP (λE=>?_) λD=>?_
 ·have s:i<xs.length:=by omega
  have g:xs[i]?=some xs[i]:=cW s;have p:ys[i]?=some (ys[i]' O):=cW _;generalize xs[i]=x at g;generalize ys[i]' O=y at p;rw[←z,←A];refine ha.lL g (hb.lL p (cO (λd=>?_) λu=>?_))
  ·have H:x≠y:=by simpa using d
   rw[zL]at hR
   ·exact hR
   ·intro e;rw[e,p]at g;exact H (Option.some.inj g).symm
  ·have r:x=y:=by simpa using u
   refine cT (m:=i+1) O O ⟨⟨i+1,rfl,O,rfl,?_⟩,O⟩;rw[kC,kC,j,g,p,r]
 ·have C:i=xs.length:=by omega
  have:xs=ys:=by
   have B:=j;rw[lI O,lI O]at B;exact B
  rw[zI this]at hR;exact hR
def gm:Hw×Int×Int:=(UK w0 0 0 56 16 0).getD (w0,0,99)
theorem DT:gm.2=(4096,0):=by decide +kernel
theorem Cg:KN w0 0 0 56 16 0 gm.1 4096 0:=by
 have a:=DT;unfold gm at *;cases hw:UK w0 0 0 56 16 0 with
 | none=>rw[hw]at a;exact absurd (congrArg Prod.snd a) aB
 | some r=>
  rw[hw]at a;have:=Fh hw;have e1:r.2=(4096,0):=a;rw[e1]at this;exact this
def gB:B5:=(4112,24,4096,64,1)
theorem Ed:Kw gm.1 4096=some 64:=by decide +kernel
def gX:Gu:=oT.dZ gB
def ve:Hw:={gm.1 with sp:=jT gm.1.sp gB}
attribute [local irreducible] w0 gm ve
end Go.Ar
namespace Go.Ar
open Go.Vc (bU dA cN)
variable {size align thread addr:Int}{H H' H1:Hw}{held held1:List Pc}{s0 s1 sp:Sp}{x y:Gu}{b:B5}
theorem Iu {α:Type}{l:List (Int×α)}{n:Int}(h:bU l n=none)(v:α):dA l n v=l++[(n,v)]:=by
 unfold dA;rw[zB];intro hx;obtain⟨y,a,e⟩:=zy.1 hx;unfold bU at h;rw[tf,oJ]at h;exact h y a e
theorem Gh {α:Type}{l:List (Int×α)}{n:Int}:bU l n=none↔∀e∈l,e.1≠n:=by
 unfold bU;rw[tf,oJ];simp only[zU]
theorem U4 {α β:Type}{f:α->β}:∀{l:List α},(l.map f).Nodup->∀{a b:α},a∈l->b∈l->f a=f b->a=b
 | [],_,_,_,h,_,_=>by simp at h
 | z::l,hn,a,b,ha,hb,e=>by
  simp only[zR,zj]at hn;rcases zW.1 ha with h1|h1
  ·rcases zW.1 hb with h2|h2
   ·rw[h1,h2]
   ·exact absurd (zE.2 ⟨b,h2,by rw[←e,h1]⟩) hn.1
  ·rcases zW.1 hb with h2|h2
   ·exact absurd (zE.2 ⟨a,h1,by rw[e,h2]⟩) hn.1
   ·exact U4 hn.2 h1 h2 e
theorem CE (h:HI H held s0){e:Int×Bk}(he:e∈H.live){w:Nat}(h1:e.1<=((8*w:Nat):Int))(h2:((8*w:Nat):Int)<e.1+e.2.2.1):gf H.sp.st (w/32)≠0:=by
 obtain⟨_,p,a,_,_,b,d,_⟩:=h.lv e he;have:=h.mapped a (x:=8*w) O O
 rwa [show 8*w/256=w/32 by omega]at this
structure dR (H:Hw) (x:Gu):Prop where
 live:H.live.map (λe=>(e.1,e.2.2.1))=x.kn.map (λe=>(e.2.2.2.1,e.2.2.2.2.1))
 can:∀e∈x.kn,∀z∈Zk e.2,QY H.sp z=ju z
 ph:∀j,fE H j=none
 i:∀e∈x.kn,e.1=e.2.1/\gK e.2
 nd:(x.kn.map (·.1)).Nodup
theorem ER (hi:HI H held s0){e e':Int×Bk}(he:e∈H.live)(he':e'∈H.live){z:Int}(h1:e.1<=z)(h2:z<e.1+e.2.2.1)(h3:e'.1<=z)(h4:z<e'.1+e'.2.2.1):e=e':=by
 obtain⟨_,p,a,_,_,d,i,_⟩:=hi.lv e he;obtain⟨_,q,g,_,_,b,j,_⟩:=hi.lv e' he';have:p=q:=hi.apart a g (x:=z.toNat) O O O O;subst this;exact U4 hi.lk he he' (by rw[←d,←b])
theorem dR.of (g:dR H x){e:Int×B5}(he:e∈x.kn):∃l∈H.live,l.1=e.2.2.2.1/\l.2.2.1=e.2.2.2.2.1:=by
 have:(e.2.2.2.1,e.2.2.2.2.1)∈H.live.map (λe=>(e.1,e.2.2.1)):=by rw[g.live];exact zE.2 ⟨e,he,rfl⟩
 obtain⟨l,a,h⟩:=zE.1 this;simp only[Prod.mk.injEq]at h;exact⟨l,a,h.1,h.2⟩
theorem dR.tE (g:dR H x)(hi:HI H held s0):(x.kn.map λe=>e.2.2.2.1).Nodup:=by
 have a:=congrArg (List.map Prod.fst) g.live;rw[lO,lO]at a;have b:(x.kn.map λe=>e.2.2.2.1)=H.live.map (·.1):=a.symm;rw[b];exact hi.lk
theorem dR.apart (g:dR H x)(hi:HI H held s0){e e':Int×B5}(he:e∈x.kn)(he':e'∈x.kn){z:Int}(h1:e.2.2.2.1<=z)(h2:z<e.2.2.2.1+e.2.2.2.2.1)(h3:e'.2.2.2.1<=z)(h4:z<e'.2.2.2.1+e'.2.2.2.2.1):e=e':=by
 obtain⟨l,d,i,m⟩:=g.of he;obtain⟨j,a,b,p⟩:=g.of he';have:=ER hi d a (z:=z) O O O O;subst this;exact U4 (g.tE hi) he he' (by rw[←i,←b])
theorem dR.usable (g:dR H x)(hi:HI H held s0){e:Int×B5}(he:e∈x.kn):Kw H e.2.2.2.1=some e.2.2.2.2.1:=by
 obtain⟨l,a,b,d⟩:=g.of he;unfold Kw;rw[←b,Qe hi.lk (show(l.1,l.2)∈H.live from a)];exact congrArg some d
theorem dR.lost (g:dR H x)(hi:HI H held s0){e:Int×B5}(he:e∈x.kn):UJ H e.2=false:=by
 unfold UJ;rw[g.usable hi he];simp
theorem dR.map (g:dR H x)(hi:HI H held s0){e:Int×B5}(he:e∈x.kn){w:Nat}(h1:e.2.2.2.1<=((8*w:Nat):Int))(h2:((8*w:Nat):Int)<e.2.2.2.1+e.2.2.2.2.1):gf H.sp.st (w/32)≠0:=by
 obtain⟨l,a,b,d⟩:=g.of he;exact CE hi a O O
theorem gK.word (bi:gK b){z:Int}(h:z∈Zk b\/z∈XC b):(∃w:Nat,z=((8*w:Nat):Int))/\b.2.2.1<=z/\z<b.2.2.1+b.2.2.2.1:=by
 have d:=bi.base;have g:=bi.z;have a:=bi.t;rcases h with h|h
 ·have:=HQ bi h;exact⟨⟨z.toNat/8,O⟩,O,O⟩
 ·have:=Hi bi h;exact⟨⟨z.toNat/8,O⟩,O,O⟩
theorem gK.nw (bi:gK b){z:Int}(h:z∈Zk b):z∉XC b:=λa=>by
 have d:=HQ bi h;have g:=Hi bi a;omega
theorem dR.acc (g:dR H x)(hi:HI H held s0){e:Int×B5}(he:e∈x.kn){z:Int}(h:z∈Zk e.2\/z∈XC e.2):eM H.sp z=0:=by
 obtain⟨⟨w,rfl⟩,b,a⟩:=(g.i e he).2.word h;exact Hb.2 (g.map hi he b a)
theorem dR.broken (g:dR H x)(hi:HI H held s0){e:Int×B5}(he:e∈x.kn):QT H.sp e.2=[]:=by
 unfold QT;rw[Bf];intro z hz;unfold jL;rw[g.acc hi he (.inl hz),g.can e he z hz];simp
theorem dR.cK (g:dR H x)(hi:HI H held s0):Lw H x=[]:=by
 unfold Lw;rw[List.flatMap_eq_nil_iff];intro e he;unfold IJ;rw[g.lost hi he,g.broken hi he];rfl
theorem dR.jz (bi:gK b){z:Int}(h1:b.1<=z)(h2:z<b.1+Yd b.2.1)(h8:z%8=0):z∈XC b:=by
 have:=bi.z;have a:=ZE (n:=b.2.1) (by have:=bi.s;omega);refine zE.2 ⟨((z-b.1)/8).toNat,ze.2 ?_,O⟩;unfold QA;omega
theorem DO (hi:HI H held s0)(ks:KS H.sp sp){l:Int×Bk}(hl:l∈H.live){w:Nat}(h1:l.1<=((8*w:Nat):Int))(h2:((8*w:Nat):Int)<l.1+l.2.2.1):QY sp ((8*w:Nat):Int)=QY H.sp ((8*w:Nat):Int)/\gf sp.st (w/32)≠0:=by
 have a:=CE hi hl h1 h2;have:=ks.k _ a;rw[A0,A0,zC a,zC this.1,this.2 w rfl];exact⟨rfl,this.1⟩
def Kept (H:Hw)(x:Gu)(H':Hw)(x':Gu)(e:Int×B5):Prop:=e∈x'.kn/\∀z∈XC e.2,QY H'.sp z=QY H.sp z
theorem Ty (bi:gK b):∀z∈Zk b,0<=z/\z%8=0:=λz a=>by
 have:=HQ bi a;have:=bi.base;omega
theorem C0 (bi:gK b):∀z∈XC b,0<=z/\z%8=0:=λz a=>by
 have:=Hi bi a;have:=bi.base;have:=bi.z;omega
theorem dR.dZ (g:dR H x)(hi:HI H held s0)(gr:vA H x size align b H1)(o:fS H H1)(hi1:HI H1 held1 s1) :
 dR {H1 with sp:=jT H1.sp b} (x.dZ b)/\(x.dZ b).kn=x.kn++[(b.1,b)]/\(∀e∈x.kn,Kept H x {H1 with sp:=jT H1.sp b} (x.dZ b) e)/\(∀z∈XC b,QY (jT H1.sp b) z=0)/\eM (jT H1.sp b) b.1=0:=by
 have bi:=gr.bi;obtain⟨C,cl,y,_⟩:bU H.live b.2.2.1=none/\∃cl,H1.live=dA H.live b.2.2.1 (b.2.2.1,(pO H.tb (zA align+Yd size+16) (zA align)).1,cl,Yh H1.bZ b.2.2.1)/\True:=by
  rcases gr.me with⟨h,_⟩|⟨_,E,_,cl,F,_⟩
  ·exact absurd rfl h
  ·exact⟨E,cl,F,trivial⟩
 have U:=gr.u;unfold Kw at U;rw[y,CT]at U;have P:(pO H.tb (zA align+Yd size+16) (zA align)).1=b.2.2.2.1:=Option.some.inj U;rw[P]at y;rw[Iu C]at y;have Q:∃l∈H1.live,l.1=b.2.2.1/\l.2.2.1=b.2.2.2.1:=⟨(b.2.2.1,(b.2.2.1,b.2.2.2.1,cl,Yh H1.bZ b.2.2.1)),by rw[y];simp,rfl,rfl⟩;obtain⟨ln,M,W,ln2⟩:=Q;have N:∀l∈H.live,l∈H1.live:=λl K=>by rw[y];exact kM _ K
 have J:∀e∈x.kn,∀z,e.2.2.2.1<=z->z<e.2.2.2.1+e.2.2.2.2.1->b.2.2.1<=z->z<b.2.2.1+b.2.2.2.1->False:=λe d z E F h3 h4=>by
  obtain⟨l,K,Z,a2⟩:=g.of d;have:=ER hi1 (N l K) M (z:=z) O O O O;subst this;have:=Gh.1 C l K;exact this W
 have hb1:=bi.base;have hb2:=bi.z;have hb3:=bi.t;have hww:=ZE (n:=b.2.1) (by have:=bi.s;omega);have L:bU x.kn b.1=none:=Gh.2 λe d h=>by
  have A:=(g.i e d);have q0:=A.1;have q4:=A.2.s;have hbs:=bi.s;have q1:=A.2.base;have q2:=A.2.z;have q3:=A.2.t;have qw:=ZE (n:=e.2.2.1) (by have:=A.2.s;omega);exact J e d b.1 O O O O
 have r:(x.dZ b).kn=x.kn++[(b.1,b)]:=Iu L b;have p:∀z,(z∈Zk b\/z∈XC b)->∃w:Nat,z=((8*w:Nat):Int)/\gf H1.sp.st (w/32)≠0:=λz m=>by
  obtain⟨⟨w,rfl⟩,E,F⟩:=bi.word m;exact⟨w,rfl,CE hi1 M O O⟩
 have G:=Ty bi;have D:=C0 bi;obtain⟨_,Y,_⟩:=Aa ju (Zk b) H1.sp G;have R:∀w:Nat,((8*w:Nat):Int)∉Zk b->((8*w:Nat):Int)∉XC b->QY (jT H1.sp b) ((8*w:Nat):Int)=QY H1.sp ((8*w:Nat):Int):=λw E F=>by
  unfold jT;rw[KW D,zB λh=>F h.1,KW G,zB λh=>E h.1]
 have B:∀e∈x.kn,∀z,(z∈Zk e.2\/z∈XC e.2)->QY (jT H1.sp b) z=QY H.sp z:=λe d z m=>by
  obtain⟨l,K,Z,a2⟩:=g.of d;obtain⟨⟨w,rfl⟩,E,F⟩:=(g.i e d).2.word m;have:=DO (H:=H) hi o.ks K (w:=w) O O;rw[R w (λm=>by have:=bi.word (.inl m);exact J e d _ E F this.2.1 this.2.2) (λm=>by have:=bi.word (.inr m);exact J e d _ E F this.2.1 this.2.2)];exact this.1
 refine⟨⟨?_,λe d z m=>?_,λj=>(o.ph j).trans (g.ph j),λe d=>?_,?_⟩,r,λe d=>⟨by rw[r];exact kM _ d,λz m=>B e d z (.inr m)⟩,λz m=>?_,?_⟩
 ·show H1.live.map _=_;rw[y,r,zo,zo,g.live];rfl
 ·show QY (jT H1.sp b) z=ju z;rw[r]at d;rcases zM.1 d with d|d
  ·rw[B e d z (.inl m)];exact g.can e d z m
  ·rw[zN]at d;subst d;obtain⟨w,rfl,S⟩:=p z (.inl m);unfold jT;rw[KW D,zB λh=>bi.nw m h.1,KW G,zC ⟨m,S⟩]
 ·rw[r]at d;rcases zM.1 d with d|d
  ·exact g.i e d
  ·rw[zN]at d;subst d;exact⟨rfl,bi⟩
 ·rw[r,zo,nf];refine⟨g.nd,by simp,λa ha c X=>?_⟩;simp only[zR,oL,zN]at X;subst X;obtain⟨e,d,rfl⟩:=zE.1 ha;exact Gh.1 L e d
 ·obtain⟨w,rfl,S⟩:=p z (.inr m);unfold jT;rw[KW D,zC ⟨m,λh=>S ((Y _).1 h)⟩]
 ·have V:b.1∈XC b:=dR.jz bi (wU _) (by have:=bi.s;omega) bi.z.2.2;obtain⟨w,hw,S⟩:=p b.1 (.inr V);obtain⟨_,k2,_⟩:=Aa (λ_=>0) (XC b) (iF H1.sp (Zk b) ju) D;rw[hw];unfold jT;exact Hb.2 λh=>S ((Y _).1 ((k2 _).1 h))
theorem dR.same (g:dR H x)(hi:HI H held s0)(o:fS H H')(hl:H'.live=H.live):dR H' x/\∀e∈x.kn,Kept H x H' x e:=by
 have a:∀e∈x.kn,∀z,(z∈Zk e.2\/z∈XC e.2)->QY H'.sp z=QY H.sp z:=λe b z d=>by
  obtain⟨l,hl,r,s⟩:=g.of b;obtain⟨⟨w,rfl⟩,m,p⟩:=(g.i e b).2.word d;exact(DO (H:=H) hi o.ks hl (w:=w) O O).1
 exact⟨⟨by rw[hl];exact g.live,λe b z d=>by rw[a e b z (.inl d)];exact g.can e b z d,λj=>(o.ph j).trans (g.ph j),g.i,g.nd⟩,λe b=>⟨b,λz d=>a e b z (.inr d)⟩⟩
theorem dR.write (g:dR H x)(hi:HI H held s0){k:Int×B5}(hk:k∈x.kn){z v:Int}(hz:z∈XC k.2):dR {H with sp:=Zm H.sp z v} x/\(∀e∈x.kn,e≠k->Kept H x {H with sp:=Zm H.sp z v} x e)/\(∀u∈XC k.2,QY (Zm H.sp z v) u=if u=z then v else QY H.sp u):=by
 obtain⟨⟨d,rfl⟩,A,y⟩:=(g.i k hk).2.word (.inr hz);have p:=g.map hi hk A y;have m:∀w:Nat,QY (Zm H.sp ((8*d:Nat):Int) v) ((8*w:Nat):Int)=if w=d/\gf H.sp.st (w/32)≠0 then v else QY H.sp ((8*w:Nat):Int):=λw=>by
  have:=KW (f:=λ_=>v) (l:=[((8*d:Nat):Int)]) (sp:=H.sp) (λz hz=>by rw[zN]at hz;subst hz;omega) w;have e:iF H.sp [((8*d:Nat):Int)] (λ_=>v)=Zm H.sp ((8*d:Nat):Int) v:=rfl;rw[e]at this;rw[this];by_cases hw:w=d
  ·subst hw;by_cases hm:gf H.sp.st (w/32)≠0
   ·rw[zC ⟨zN.2 rfl,hm⟩,zC ⟨rfl,hm⟩]
   ·rw[zB λh=>hm h.2,zB λh=>hm h.2]
  ·rw[zB λh=>hw (by have:=zN.1 h.1;omega),zB λh=>hw h.1]
 have j:∀e∈x.kn,∀u,(u∈Zk e.2\/u∈XC e.2)->(e=k->u∈Zk e.2)->QY (Zm H.sp ((8*d:Nat):Int) v) u=QY H.sp u:=λe b u a s=>by
  obtain⟨⟨w,rfl⟩,B,C⟩:=(g.i e b).2.word a;rw[m,zB];rintro⟨rfl,_⟩;have:=g.apart hi b hk B C A y;subst this;exact(g.i e b).2.nw (s rfl) hz
 refine⟨⟨g.live,λe b u a=>?_,g.ph,g.i,g.nd⟩,λe b r=>⟨b,λu a=>j e b u (.inr a) λh=>absurd h r⟩,λu a=>?_⟩
 ·show QY (Zm H.sp ((8*d:Nat):Int) v) u=ju u;rw[j e b u (.inl a) λ_=>a];exact g.can e b u a
 ·obtain⟨⟨w,rfl⟩,B,C⟩:=(g.i k hk).2.word (.inr a);rw[m];by_cases hw:w=d
  ·subst hw;rw[zC ⟨rfl,p⟩,zC rfl]
  ·rw[zB λh=>hw h.1,zB λh=>hw O]
theorem dR.free (g:dR H x)(hi:HI H held s0){b:B5}(hk:bU x.kn addr=some b){e:Int}(hw:KN (dP H b) thread 1 0 0 b.2.2.1 H1 0 e)(o:fS (dP H b) H1)(fe:nU (dP H b) thread b.2.2.1 H1 e)(hrd:ZG H thread=0)(hcf:H.cf.threads=H.bR.length) :
 dR H1 (x.gone addr)/\∀k∈x.kn,k.1≠addr->Kept H x H1 (x.gone addr) k:=by
 have a:(addr,b)∈x.kn:=ZY hk;have C:=g.i _ a;have M:addr=b.1:=C.1;have L:gK b:=C.2;obtain⟨l,U,K,P⟩:=g.of a;simp only at K P;have F:(dP H b).live=H.live:=rfl;have E:bU H.live b.2.2.1=some l.2:=by rw[←K];exact Qe hi.lk (show(l.1,l.2)∈H.live from U)
 have p:H1.live=cN H.live b.2.2.1:=by
  rcases fe with⟨_,_,h⟩|⟨_,h,_⟩|⟨_,_,_,_,h⟩
  ·exfalso;unfold ZG at hrd;rw[UU]at hrd;split at hrd
   ·cases hrd
   ·rename_i hth;have u:=g.ph thread.toNat;unfold Vb at h;have D:thread.toNat<H.bR.length:=by omega
    rw[zC (show 0<=thread/\thread<((dP H b).bR.length:Int)from⟨O,by show thread<(H.bR.length:Int);omega⟩)]at h;have R:(dP H b).bR[thread.toNat]?=some H.bR[thread.toNat]:=cW D;rw[R]at h;simp only at h;unfold fE at u;rw[cW D]at u;rw[zC (show H.bR[thread.toNat].ph=none from u)]at h;unfold iS at h;rw[zB aB,zC rfl]at h;cases h
  ·rw[F,E]at h;cases h
  ·exact h
 have G:=C0 L;have r:∃s1,HI (dP H b) held s1:=HI.iF _ _ hi;obtain⟨s1,r⟩:=r;have d:∀k∈x.kn,k.1≠addr->∀z,(z∈Zk k.2\/z∈XC k.2)->QY H1.sp z=QY H.sp z:=λk hk m z A=>by
  obtain⟨N,J,W,V⟩:=g.of hk;obtain⟨⟨w,rfl⟩,Q,S⟩:=(g.i k hk).2.word A;rw[(DO r o.ks (l:=N) J (w:=w) O O).1];show QY (iF H.sp (XC b) λ_=>Ui) _=_;rw[KW G,zB];rintro⟨hw,_⟩;have B:=L.word (.inr hw);have:=g.apart hi hk a Q S B.2.1 B.2.2;subst this;exact m rfl
 have s:∀k,k∈(x.gone addr).kn↔k∈x.kn/\k.1≠addr:=λk=>by
  show k∈cN x.kn addr↔_;unfold cN;rw[zJ];simp
 refine⟨⟨?_,λk hk z A=>?_,λj=>(o.ph j).trans (g.ph j),λk hk=>g.i k ((s k).1 hk).1,?_⟩,λk hk m=>⟨(s k).2 ⟨hk,m⟩,λz A=>d k hk m z (.inr A)⟩⟩
 ·rw[p];show(cN H.live b.2.2.1).map _=(cN x.kn addr).map _;unfold cN;have e1:(H.live.filter λy=>!(y.1==b.2.2.1)).map (λe=>(e.1,e.2.2.1))=(H.live.map λe=>(e.1,e.2.2.1)).filter λq=>!(q.1==b.2.2.1):=by rw[wO];rfl
  rw[e1,g.live,wO]
  congr 1
  apply wA;intro k hk;simp only[Function.comp]
  congr 1
  rw[kW,zU,zU];constructor
  ·intro h;have:=U4 (g.tE hi) hk a h;rw[this]
  ·intro h;have:=U4 g.nd hk a h;rw[this]
 ·have:=(s k).1 hk;rw[d k this.1 this.2 z (.inl A)];exact g.can k this.1 z A
 ·show((cN x.kn addr).map _).Nodup;exact g.nd.sublist (List.filter_sublist.map _)
end Go.Ar
namespace Go.Ar
open Go Go.Vc Go.Proofs
open Go.Vc (bU dA cN)
variable {size align:Int}{U σ0 v w w':Hp}{F P Q X T:Rg}{L:dE}{H H' H1:Hw}{held:List Pc}{s0 sp:Sp}{t n:Nat}{g:Th}{gb km fm m xb:Nat}{x y:Gu}{b:B5}
def C1 (gb:Nat)(addrs ls:Sl):List Value:=[.pointer (some ⟨gb,0,none⟩),.slice addrs.a addrs.len addrs.cap,.slice ls.a ls.len ls.cap]
structure og (σ0 U:Hp) (xb:Nat) (L:dE) (H:Hw) (held:List Pc) (s0:Sp) (P:Rg) (gb km fm:Nat) (x:Gu) (Qa Ql:Rg) (addrs:Sl) (ad:List Int) (ls:Sl) (la:List T3):Prop where
 p:GP σ0 U L H held s0 P gb km fm x
 b:bY U xb (C1 gb addrs ls)
 ra:bT addrs 1 (Wy ad) U Qa
 rl:bT ls 3 (lP la) U Ql
 r8:σ0.size<=xb/\¬Mg P gb km fm xb/\¬Qa xb/\¬Ql xb
 qa:∀b,Qa b->σ0.size<=b/\b<U.size/\¬Mg P gb km fm b
 ql:∀b,Ql b->σ0.size<=b/\b<U.size/\¬Mg P gb km fm b
 qq:∀b,Qa b->¬Ql b
variable {Qa Ql:Rg}{addrs ls:Sl}{ad:List Int}{la:List T3}
theorem og.fr (o:og σ0 U xb L H held s0 P gb km fm x Qa Ql addrs ad ls la)(e:aF U w):og σ0 w xb L H held s0 P gb km fm x Qa Ql addrs ad ls la:=
 ⟨o.p.fr e,e.bV o.b id,aI.bP o.ra e,aI.bP o.rl e,o.r8,λb a=>by have h:=o.qa b a;have:=e.1;exact⟨h.1,O,h.2.2⟩,λb a=>by have h:=o.ql b a;have:=e.1;exact⟨h.1,O,h.2.2⟩,o.qq⟩
theorem Jl {P':Rg}(hg:gb<n/\km<n/\fm<n)(hP:∀b,P' b->P b\/n<=b):∀b,Mg P' gb km fm b->Mg P gb km fm b\/n<=b:=by
 rintro b (h|h)
 ·exact(hP b h).imp .inl id
 ·exact .inl (.inr h)
theorem og.eV (o:og σ0 U xb L H held s0 P gb km fm x Qa Ql addrs ad ls la){L':dE}{held':List Pc}{s0':Sp}{P':Rg}(e:Ext (Mg P gb km fm) U w)(p':GP σ0 w L' H' held' s0' P' gb km fm y)(hP:∀b,P' b->P b\/U.size<=b) :
 og σ0 w xb L' H' held' s0' P' gb km fm y Qa Ql addrs ad ls la:=by
 have D:=e.1;have d:=o.b.lt;obtain⟨s,r,z,u⟩:=o.r8;have j:∀b,b<U.size->¬Mg P gb km fm b->¬Mg P' gb km fm b:=λb C A B=>by
  rcases Jl ⟨o.p.b.lt,o.p.m.lt,o.p.f.lt⟩ hP b B with h4|h4
  ·exact A h4
  ·omega
 exact⟨p',e.bV o.b r,aI.bS o.ra e λb _ i a=>(o.qa b i).2.2 a,aI.bS o.rl e λb _ i a=>(o.ql b i).2.2 a,⟨s,j _ d r,z,u⟩,λb g=>by have h:=o.qa b g;exact⟨h.1,O,j b h.2.1 h.2.2⟩,λb g=>by have h:=o.ql b g;exact⟨h.1,O,j b h.2.1 h.2.2⟩,o.qq⟩
theorem VC {c:Nat}(h:¬Mg P gb km fm c):¬P c/\c≠gb/\c≠km/\c≠fm:=⟨λa=>h (.inl a),λe=>h (.inr (.inl e)),λe=>h (.inr (.inr (.inl e))),λe=>h (.inr (.inr (.inr e)))⟩
theorem uX (p:GP σ0 U L H held s0 P gb km fm x){c:Nat}(h:Mg P gb km fm c):c<U.size:=by
 rcases h with h|rfl|rfl|rfl
 ·exact(p.pP c h).2
 ·exact p.b.lt
 ·exact p.m.lt
 ·exact p.f.lt
theorem og.cF (o:og σ0 U xb L H held s0 P gb km fm x Qa Ql addrs ad ls la){s':Sl}{ad':List Int}(e:Ext Qa U w)(hr:bT s' 1 (Wy ad') w λb=>Qa b\/U.size<=b/\b<w.size){K:aP}
 (hK:∀u,Ext (· = xb) w u->og σ0 u xb L H held s0 P gb km fm x (λb=>Qa b\/U.size<=b/\b<w.size) Ql s' ad' ls la->K u):dQ (Addr.add ⟨xb,0,none⟩ 1) (.slice s'.a s'.len s'.cap) w K:=by
 have J:=e.1;have F:=o.b.lt;obtain⟨B,A,r,z⟩:=o.r8;have C:=o.p.out e λb _ d=>by have h:=o.qa b d;have i:=VC h.2.2;exact⟨i.1,i.2.1,i.2.2.1,i.2.2.2,h.1⟩
 have s:=aI.bS o.rl e λb _ j G=>o.qq b G j;refine(e.bV o.b r).s1 (by simp[C1]) λu y b=>?_;have m:=y.ext;have E:=y.1;have i:=VC A;refine hK u m ⟨C.out m λb _ (d:b=xb)=>by subst d;exact⟨i.1,i.2.1,i.2.2.1,i.2.2.2,B⟩,b,aI.bS hr m λb _ g (d:b=xb)=>?_,aI.bS s m λb _ g (d:b=xb)=>z (d▸g),⟨B,A,?_,z⟩,λb d=>?_,λb d=>by have h:=o.ql b d;exact⟨h.1,O,h.2.2⟩,λb d j=>?_⟩
 ·subst d;rcases g with g|g
  ·exact r g
  ·omega
 ·rintro(g|g)
  ·exact r g
  ·omega
 ·rcases d with d|d
  ·have h:=o.qa b d;exact⟨h.1,O,h.2.2⟩
  ·have:=o.p.e.1;exact⟨O,O,λD=>by have:=uX o.p D;omega⟩
 ·rcases d with d|d
  ·exact o.qq b d j
  ·have:=(o.ql b j).2.1;omega
theorem og.ik (o:og σ0 U xb L H held s0 P gb km fm x Qa Ql addrs ad ls la){s':Sl}{la':List T3}{Ql':Rg}(e:Ext Ql U w)(hr:bT s' 3 (lP la') w Ql')(hQ:∀b,Ql' b->Ql b\/U.size<=b/\b<w.size){K:aP}
 (hK:∀u,Ext (· = xb) w u->og σ0 u xb L H held s0 P gb km fm x Qa Ql' addrs ad s' la'->K u):dQ (Addr.add ⟨xb,0,none⟩ 2) (.slice s'.a s'.len s'.cap) w K:=by
 have M:=e.1;have G:=o.b.lt;obtain⟨C,B,z,y⟩:=o.r8;have D:=o.p.out e λb _ d=>by have h:=o.ql b d;have g:=VC h.2.2;exact⟨g.1,g.2.1,g.2.2.1,g.2.2.2,h.1⟩
 have r:=aI.bS o.ra e λb _ J i=>o.qq b J i;refine(e.bV o.b y).s1 (by simp[C1]) λu s b=>?_;have j:=s.ext;have F:=s.1;have g:=VC B;have A:¬Ql' xb:=λh=>by
  rcases hQ xb h with h|h
  ·exact y h
  ·omega
 refine hK u j ⟨D.out j λb _ (d:b=xb)=>by subst d;exact⟨g.1,g.2.1,g.2.2.1,g.2.2.2,C⟩,b,aI.bS r j λb _ m (d:b=xb)=>z (d▸m),aI.bS hr j λb _ m (d:b=xb)=>A (d▸m),⟨C,B,z,A⟩,λb d=>by have h:=o.qa b d;exact⟨h.1,O,h.2.2⟩,λb d=>?_,λb d i=>?_⟩
 ·rcases hQ b d with d|d
  ·have h:=o.ql b d;exact⟨h.1,O,h.2.2⟩
  ·have:=o.p.e.1;exact⟨O,O,λE=>by have:=uX o.p E;omega⟩
 ·rcases hQ b i with i|i
  ·exact o.qq b d i
  ·have:=(o.qa b d).2.1;omega
inductive nL (H:Hw) (x:Gu) (d:eW) (a:Int):Hw->Gu->Int->Option Int->Bool->Prop where
 | same (e:Int):(e=0->d.kd≠20/\d.kd≠21/\d.kd≠22)->nL H x d a H x e none false
 | full {H':Hw} {e:Int}:d.kd=20->mB d.a d.b=true->e≠0->KN H d.th 0 (zA d.b+Yd d.a+16) (zA d.b) 0 H' 0 e->fS H H'->H'.live=H.live->nL H x d a H' x e none false
 | dZ {b:B5} {H1:Hw}:d.kd=20->vA H x d.a d.b b H1->KN H d.th 0 (zA d.b+Yd d.a+16) (zA d.b) 0 H1 b.2.2.1 0->fS H H1->nL H x d a {H1 with sp:=jT H1.sp b} (x.dZ b) 0 (some b.1) false
 | mc {b:B5} {H1:Hw} {e:Int}:(d.kd=21\/d.kd=22)->bU x.kn a=some b->mf H x d.th a true=0->KN (dP H b) d.th 1 0 0 b.2.2.1 H1 0 e->fS (dP H b) H1->nU (dP H b) d.th b.2.2.1 H1 e->nL H x d a H1 (x.gone a) 0 none true
 | wrote:d.kd=26->pH H x a 0->nL H x d a {H with sp:=Zm H.sp a d.va} x (eM H.sp a) none false
def η (d:eW)(add:Option Int)(del:Bool)(a:Int)(la:List T3):List T3:=match add with
 | some b=>la++[(b,d.a,d.b)]
 | none=>if del then la.filter λq=>!(q.1==a)else la
end Go.Ar
namespace Go.Ar
open Go Go.Vc Go.Proofs
open Go.Vc (bU dA cN)
open Go.Bu (fA VN HD)
variable {size align a:Int}{U σ0 v w w':Hp}{F P Q X T:Rg}{L:dE}{H H' H1:Hw}{held held' held1:List Pc}{s0 s0' s1 sp:Sp}{t n:Nat}{gb km fm m xb:Nat}{x x' y:Gu}{b:B5}{ad:List Int}{la:List T3}{d:eW}{add:Option Int}{del:Bool}{e:Int}{l:Sl}{ds:List eW}
theorem JB {s c al:Int}{i:Int}(h1:256%al=0)(h2:c%al=0):(s*256+i*c)%al=0:=by
 obtain⟨q1,e1⟩:=y6 h1;obtain⟨q2,e2⟩:=y6 h2;refine Int.emod_eq_zero_of_dvd ⟨s*q1+i*q2,?_⟩;rw[e1,e2,Int.mul_add,Int.mul_left_comm s,Int.mul_left_comm i]
theorem MV (hi1:HI H1 held1 s1)(hp:HI H held s0)(ht:H1.tb=H.tb){al base:Int}(h256:256%al=0)(me:rG H size al H1 base 0):base%al=0:=by
 rcases me with⟨h,_⟩|⟨_,hm,_,cl,hl,hcl⟩
 ·exact absurd rfl h
 have y:(base,((base,(pO H.tb size al).1,cl,Yh H1.bZ base):Bk))∈H1.live:=by rw[hl];exact ZY (CT _)
 obtain⟨_,p,w,_,F,C,_,_⟩:=hi1.lv _ y;obtain⟨A,D,hd⟩:=hi1.wi.hf p w;simp only at F C;rcases hd with⟨q1,_,r,_,q2,_⟩|⟨j,c,q1,q2,_,q3,_⟩
 ·rw[←C,q2];have:((r.1*256:Nat):Int)=(r.1:Int)*256+0*0:=by omega
  rw[this];exact JB h256 aA
 ·rcases hcl with⟨k,rfl,hk⟩|⟨rfl,_⟩
  ·have x:j=k:=by omega
   subst x;obtain⟨G,g,_,b⟩:=Jo hk;have m:A.tb=H1.tb:=hi1.wi.tb _ A D;rw[m,ht,g]at q2;cases q2;obtain⟨B,J,a,z⟩:=q3;have d:=(hi1.wi.ga _ A D).cG _ _ _ a;have u:B=c:=by
    have:=a.1;rw[m,ht,g]at this;exact(Option.some.inj this).symm
   subst u;obtain⟨_,s,i,_,_,E,_⟩:=(Uk d).1 z;rw[←C,E];have:((at_ B s i:Nat):Int)=(s.st:Int)*256+(i:Int)*(B.size:Int):=by unfold at_;simp
   rw[this];exact JB h256 b
  ·omega
theorem Tp {al:Int}(h1:1<=al)(h2:al<=256)(hp:fA al=true):256%al=0/\(al<16->16%al=0):=by
 obtain⟨al,rfl⟩:=zc (show 0<=al by omega);rw[VN]at hp;have key:∀a:Nat,a<=256->1<=a->(a &&& (a-1)=0)->256%a=0/\(a<16->16%a=0):=by decide +kernel
 have:=key al O O (by have:=HD (a:=al) O O;rw[hp]at this;simpa using this);exact⟨by rw[show(256:Int)=((256:Nat):Int)from rfl,←Int.natCast_emod,this.1];rfl,λh=>by rw[show(16:Int)=((16:Nat):Int)from rfl,←Int.natCast_emod,this.2 O];rfl⟩
theorem Se {al:Int}(h1:1<=al)(h2:al<=256)(hp:fA al=true):256%zA al=0/\zA al%al=0:=by
 have:=Tp h1 h2 hp;unfold zA;split
 ·exact⟨by decide,this.2 O⟩
 ·exact⟨this.1,by simp⟩
structure AL (H:Hw) (x:Gu) (ad:List Int) (la:List T3):Prop where
 g:dR H x
 n0:0<=x.no
 nl:(x.kn.length:Int)<=x.no/\(ad.length:Int)<=x.no
 lq:la.map (λa=>(a.1,a.2.1,zA a.2.2))=x.kn.map (λe=>(e.1,e.2.2.1,e.1-e.2.2.2.1))
 ok:∀a∈la,mB a.2.1 a.2.2=true/\a.1%a.2.2=0
 dq:∀a∈ad,(bU x.kn a).isSome=true\/bU x.fr a=some true
 th:1<=H.cf.threads
theorem AL.out (al:AL H x ad la)(hi:HI H held s0)(cf:iT H)(o:nL H x d a H' x' e add del):AL H' x' (ad++add.toList) (η d add del a la)/\x'.no<=x.no+1/\∀k∈x.kn,¬(k.1<=a/\a<k.1+Yd k.2.2.1)->Kept H x H' x' k:=by
 have g:=al.g;have E:ad++(none:Option Int).toList=ad:=by simp
 cases o with
 | same e U=>rw[E];exact⟨al,O,λk j _=>⟨j,λ_ _=>rfl⟩⟩
 | full j y r F op hl=>
  rw[E];obtain⟨w,D⟩:=g.same hi op hl;exact⟨⟨w,al.n0,al.nl,al.lq,al.ok,al.dq,by rw[op.kp.2.1];exact al.th⟩,O,λk j _=>D k j⟩
 | dZ j gr F op=>
  rename_i b H1;obtain⟨G,s1,B⟩:=op.hi;obtain⟨w,S,W,_,_⟩:=g.dZ hi gr op B;have A:=gr.ok;unfold mB at A;rw[zF,zV]at A;obtain⟨⟨_,_,k3,k4⟩,kp⟩:=A;obtain⟨N,L⟩:=Se k3 k4 kp;have Q:=MV B hi op.kp.1 N gr.me;have C:(x.dZ b).no=x.no+1:=rfl;have K:(x.dZ b).fr=x.fr:=rfl;refine⟨⟨w,by have:=al.n0;omega,⟨?_,?_⟩,?_,λq u=>?_,λz p=>?_,by show 1<=H1.cf.threads;rw[op.kp.2.1];exact al.th⟩,O,λk j _=>W k j⟩
  ·rw[S,C,zK];have:=al.nl.1;simp;omega
  ·rw[C,zK];have:=al.nl.2;simp;omega
  ·show(la++[(b.1,d.a,d.b)]).map _=_;rw[S,zo,zo,al.lq]
   congr 1
   simp only[zR,oL,gr.s];have:=gr.a
   congr 3
   omega
  ·rcases zM.1 (show q∈la++[(b.1,d.a,d.b)]from u)with u|u
   ·exact al.ok q u
   ·rw[zN]at u;subst u;refine⟨gr.ok,?_⟩;show b.1%d.b=0;obtain⟨q1,e1⟩:=y6 Q;obtain⟨q2,e2⟩:=y6 L;refine Int.emod_eq_zero_of_dvd ⟨q2*q1+q2,?_⟩;rw[gr.a,e1,Int.mul_add,←Int.mul_assoc,←e2]
  ·have J:(x.dZ b).kn=dA x.kn b.1 b:=rfl;rw[J,K,UW];rcases zM.1 p with p|p
   ·split
    ·exact .inl rfl
    ·exact al.dq z p
   ·simp only[q8,zN]at p;subst p;rw[zC rfl];exact .inl rfl
 | mc j hm hf F op fe=>
  rename_i b e;rw[E];have M:ZG H d.th=0:=by
   by_cases h:ZG H d.th=0
   ·exact h
   ·unfold mf at hf;rw[zC h]at hf;exact absurd hf h
  obtain⟨w,D⟩:=g.free hi hm F op fe M cf.2.1;have y:(x.gone a).kn=cN x.kn a:=rfl;have P:(x.gone a).fr=dA x.fr a true:=rfl;refine⟨⟨w,al.n0,⟨?_,al.nl.2⟩,?_,λq u=>al.ok q (zJ.1 u).1,λz p=>?_,by rw[op.kp.2.1];exact al.th⟩,by show x.no<=_;omega,λk j r=>D k j λh=>r ?_⟩
  ·rw[y];have Y:=pM (λq:Int×B5=>!(q.1==a)) x.kn;have Z:=al.nl.1;show((x.kn.filter _).length:Int)<=x.no;omega
  ·show(la.filter λq=>!(q.1==a)).map _=(x.kn.filter λq=>!(q.1==a)).map _;have e1:(la.filter λq=>!(q.1==a)).map (λa=>(a.1,a.2.1,zA a.2.2))=(la.map λa=>(a.1,a.2.1,zA a.2.2)).filter λq=>!(q.1==a):=by rw[wO];rfl
   have e2:(x.kn.filter λq=>!(q.1==a)).map (λe=>(e.1,e.2.2.1,e.1-e.2.2.2.1))=(x.kn.map λe=>(e.1,e.2.2.1,e.1-e.2.2.2.1)).filter λq=>!(q.1==a):=by rw[wO];rfl
   rw[e1,e2,al.lq]
  ·rw[y,P,C5,UW];by_cases h:z=a
   ·rw[zC h,zC h];exact .inr rfl
   ·rw[zB h,zB h];exact al.dq z p
  ·have m:=g.i k j;have X:=m.2.s;have F:=ZE (n:=k.2.2.1) O;omega
 | wrote j wd=>
  rw[E];rcases wd with⟨h,_⟩|⟨k,j,hin,h8,_⟩
  ·cases h
  ·have m:=g.i k j;obtain⟨V,R⟩:=hin;have p:a∈XC k.2:=dR.jz m.2 V R h8;obtain⟨w,D,_⟩:=g.write hi j p (v:=d.va);refine⟨⟨w,al.n0,al.nl,al.lq,al.ok,al.dq,al.th⟩,O,λe U r=>D e U λh=>r ?_⟩;subst h;exact⟨by rw[m.1];exact V,by rw[m.1];exact R⟩
theorem AL.ready (al:AL H x ad la)(cf:iT H):ZG H 0=0:=by
 have b:=al.th;unfold ZG;rw[zB O,UU];have a:(if 0<=(0:Int)/\(0:Int)<(H.bR.length:Int)then fE H (0:Int).toNat else none)=none:=by
  split
  ·exact al.g.ph _
  ·rfl
 rw[a];rfl
variable {Qa Ql:Rg}{addrs ls:Sl}
end Go.Ar
namespace Go.Ar
open Go Go.Vc Go.Proofs Go.RowKit Go.Maps Go.Sort Go.Shelf
open Go.Vc (bU dA cN)
open Go.Bu (lb HZ Uf HN VO yR)
variable {U σ0 v w w':Hp}{F P Q X T:Rg}{L:dE}{H H' H1:Hw}{held:List Pc}{s0 sp:Sp}{t n:Nat}{gb km fm m:Nat}{x y:Gu}{b:B5}
def GT:Nat:=Tryz.ie.f 10
def Cd:Nat:=Tryz.ie.t 23
theorem Pe (m:Option Nat){R:Fv->Hp->Prop}(hR:R ⟨GT,#[],#[.pointer (some ⟨U.size,0,none⟩)]⟩ (U.push (.cells #[.map m] Cd (0,0)))) :
 ZJ.c m U R:=by
 rintro w rfl;refine(callsIn_wide.1 (AnyZI.keys_in Tryz.lz Fence.wide 5 trivial rfl m w)).mono ?_;rintro e a ⟨rfl,rfl⟩;exact⟨⟨rfl,rfl,rfl,sH (by show _<(w.heap.push _).size;simp)⟩,[.func (.func GT) #[] #[.pointer (some ⟨w.heap.size,0,none⟩)]],rfl,⟨GT,#[],#[.pointer (some ⟨w.heap.size,0,none⟩)]⟩,rfl,hR⟩
theorem Rn {w:World}{c m:Nat}{B:List (Int×B5)}(hc:cell w.heap ⟨c,0,none⟩=some (.map (some m)))(hm:dK w.heap m .i64 (.ag 5) B)(hb:∀x∈B,Go.Bu.jx x.1)(hs:B.length<=1000000)(n:Nat)(hn:1<=n) :
 SeqGives Fence.wide n Tryz.prog GT #[.pointer (some ⟨c,0,none⟩)] encZ (λss=>ss.Perm (B.map (·.1))) B.length w:=by
 obtain⟨D,i,d,a⟩:=VO (P:=Tryz.prog) Tryz.lz.t26 hm hb hs;have b:c<w.heap.size:=by
  unfold cell at hc;split at hc
  ·rename_i h;exact(kg.1 h).1
  ·cases hc
 have:=AnyZI.keys_gives (ρ:=Tryz.ie) {Tryz.lz with} Fence.wide n trivial rfl hn c m B.length D w b hc i;intro l J W hW hJ hY h0;rw[a]at this;refine(this l J W hW hJ hY h0).mono ?_;rintro e W' ⟨p,ss,g,j⟩;exact⟨p,ss,g.trans d,j⟩
theorem Wg0 {c m:Nat}{B:List (Int×B5)}(hc:cell U ⟨c,0,none⟩=some (.map (some m)))(hm:dK U m .i64 (.ag 5) B)(hb:∀x∈B,Go.Bu.jx x.1)(hs:B.length<=1000000){R:Sl->Hp->Prop}
 (hR:∀(s:Sl) (σ':Hp) (ss:List Int),aF U σ'->ss.Perm (B.map (·.1))->ss.Pairwise (· <= ·)->lb U.size σ' s (ss.map (Value.int .i64))->R s σ') :
 Ua.c ⟨GT,#[],#[.pointer (some ⟨c,0,none⟩)]⟩ U R:=by
 rintro w rfl;have d:=Rn hc hm hb hs 2 O;have j:B.length<=maxLen:=by unfold maxLen;omega
 have z:=AnyZI.sorted_in Tryz.rQ Fence.wide 5 trivial trivial trivial trivial rfl O (yR _) (Tryz.qe.f5.enters rfl) GT #[.pointer (some ⟨c,0,none⟩)] trivial (Tryz.lz.f10.enters rfl) _ _ j O _ d;refine(callsIn_wide.1 z).mono ?_;rintro e D ⟨v,ss,rfl,u,g,r,i⟩;obtain⟨s,rfl,p⟩:=HZ g;refine⟨HN i,[.slice s.a s.len s.cap],rfl,s,rfl,?_⟩;refine hR s _ (ss.mergeSort λx y=>decide (x<=y)) (Uf i) ((List.mergeSort_perm _ _).trans u) ?_ p;have:=List.pairwise_mergeSort (le:=λx y:Int=>decide (x<=y)) (λa b c A C=>by simp at *;omega) (λa b=>by simp;omega) ss;exact this.imp (λh=>by simpa using h)
structure xE (x:Gu) (es:List (Int×B5)):Prop where
 p:es.Perm x.kn
 s:es.Pairwise λa b=>a.1<b.1
def b4 (e:Int×B5):Bk:=(e.2.1,e.2.2.1,e.2.2.2.1,e.2.2.2.2.1)
theorem Rp (p:GP σ0 U L H held s0 P gb km fm x)(xi:∀e∈x.kn,e.1=e.2.1/\gK e.2)(hl:x.kn.length<=1000000){R:Sl->Hp->Prop}(hR:∀s σ' es,aF U σ'->xE x es->bT s 4 (jo (es.map b4)) σ' (λb=>U.size<=b)->R s σ'):Zi.c (aW gb) U R:=by
 refine Zi.o ?_;unfold Zi.v;have y:∀e∈x.kn,Go.Bu.jx e.1:=λe g=>by
  have h:=xi e g;have A:=h.1;have N:=h.2.z;have h3:=h.2.base;have h4:=h.2.t;have h5:=h.2.m;have h6:=h.2.s;have Z:=ZE (n:=e.2.2.1) O;unfold Go.Bu.jx;omega
 have r:=p.m.nodup;refine Ur p (cD rfl (bL (p.b.rM rfl (Pe _ ?_))));have e1:aF U (U.push (.cells #[.map (some km)] Cd (0,0))):=Ext.push _ _ _;have p1:=p.fr e1;refine Wg0 (by unfold cell;simp) p1.m y hl λs u d e2 Q E hs=>?_;have V:=e1.trans e2;have D:=cV.uh hs;have M:d.Nodup:=Q.nodup_iff.2 r;have S:d.length=x.kn.length:=by rw[Q.length_eq];simp
 have hsl:s.len=d.length:=by have:=D.1;simp at this;omega
 let f:Int->Int×B5:=λk=>(k,(bU x.kn k).getD (0,0,0,0,0))
 have K:∀e∈x.kn,f e.1=e:=λe g=>by
  show(e.1,(bU x.kn e.1).getD (0,0,0,0,0))=e;rw[Qe r (show(e.1,e.2)∈x.kn from g)];rfl
 have hz1:U.size<u.size:=by
  have A:=e2.1;have N:(U.push (.cells #[.map (some km)] Cd (0,0))).size=U.size+1:=by simp
  omega
 refine UI (a:=.s) (bb:=bO) (λ(out:Sl) (z:Int) w=>∃i:Nat,z=i/\i<=d.length/\aF u w/\bT out 4 (jo (((d.take i).map f).map b4)) w (λb=>u.size<=b)) (λ_ z _=>d.length-z.toNat) ⟨0,rfl,O,Ext.refl _ _,⟨by simp[jo],.inl ⟨rfl,rfl⟩⟩⟩ ?_;rintro(out:Sl) (z:Int) w ⟨i,rfl,hil,ew,hr⟩;have Z:=p1.fr (e2.trans ew);refine cP (λhlt=>?_) λhge=>?_
 ·have hx:d[i]?=some (d[i]' O):=cW _;have hol:out.len=i:=by have:=hr.1;rw[Cn]at this;simp at this;omega
  have G:(d[i]' O)∈x.kn.map (·.1):=Q.mem_iff.1 (kD _);obtain⟨e,g,B⟩:=zE.1 G;have X:f (d[i]' O)=e:=by rw[←B];exact K e g
  refine(aH.bP (aH.cut D) ew).lL hx (bL (Z.b.rM rfl ⟨x.kn,Z.m,?_⟩));have J:bU x.kn (d[i]' O)=some e.2:=by rw[←B];exact Qe r (show(e.1,e.2)∈x.kn from g)
  rw[J];refine hr.push (F:=λb=>u.size<=b) (vs:=lM (b4 e)) (λb C=>by have:=ew.1;omega) rfl rfl (by simp[lM,dV]) O O λs' w' ab Y aa=>?_;have e3:aF u w':=Ext.fresh ew Y λb C=>C;refine cT (m:=i+1) O O ⟨⟨i+1,rfl,O,e3,?_⟩,O⟩;have:jo (((d.take (i+1)).map f).map b4)=jo (((d.take i).map f).map b4)++lM (b4 e):=by
   unfold jo;rw[kC,hx,zo,zo,List.flatMap_append];simp only[q8,zR,oL,nY,List.flatMap_nil,kE,X]
  rw[this];exact aa
 ·have W:i=d.length:=by omega
  subst W;rw[lV]at hr;have j:(d.map f).Perm x.kn:=by
   have A:=Q.map f;rw[lO]at A;have N:x.kn.map (f∘λe=>e.1)=x.kn:=by
    conv=>rhs;rw[←wj x.kn]
    exact ku λe g=>K e g
   rwa [N]at A
  refine hR out w (d.map f) (V.trans ew) ⟨j,?_⟩ (aI.mono hr λb _ C=>by
   show U.size<=b;have C:u.size<=b:=C;omega)
  rw[rp];exact(E.and M).imp λ{a b} ⟨A,N⟩=>by
   have h3:a≠b:=N;show a<b;omega
end Go.Ar
namespace Go.Proofs
open Go.Vc
set_option maxRecDepth 100000
def Wz.h:Hn:=.q .o1 (.q (.q .o3 .aK) (.q .o7 (.q (.q .o6 (.k (.loop [(20,.I)] (.q .o1 (.q (.c .l .l) (.q (.k (.q .o6 .o6)) .o2)))))) .aL)))
def Wz.v (a:R2)(b:Hp)(c:Sl->Hp->Prop):Prop:=Wm.c a b λd e=>If (!d) (c ⟨none,0,0⟩ e) (bF a 3 e λg=>Mk ((g.len:Nat):Int) ((g.len:Nat):Int) 8 3 [.I 0] e λh i=>bF a 3 i λk=>Yf [bO] (λl=>l 0 i) λm (n:Int) o=>If (n<((k.len:Nat):Int)) (Ix k.a k.len n 2 λp=>aQ p 0 o λq=>aQ p 1 o λr=>aV #[.I 0,.I 0] 101 o λs t=>aR s 0 (.I q) t λu=>aR s 1 (.I r) u λv=>aQ s 0 v λw=>Ix h.a h.len n 1 λx=>dQ x (.I w) v λy=>bM (n+1) λz=>m z y) (c h o))
theorem Wz.o {a b c}(d:Wz.v a b c):Wz.c a b c:=Wa Tryz.func16 (x:=Wz.h) (R0 d)
def WC.h:Hn:=.q .o1 (.q (.q .o3 .aK) (.q .o1 (.q (.q .o6 (.k (.loop [(3,.I),(14,.I)] (.q .o1 (.q (.c .l .l) (.q (.k (.q .o4 .o5)) .o2)))))) .aL)))
def WC.v (a:R2)(b:Hp)(c:aN):Prop:=Wm.c a b λd e=>If (!d) (c 0 e) (bF a 3 e λg=>Yf [bO,bO] (λh=>h 0 0 e) λi (j:Int) (k:Int) l=>If (k<((g.len:Nat):Int)) (Ix g.a g.len k 2 λm=>aQ m 0 l λn=>aQ m 1 l λo=>aV #[.I 0,.I 0] 101 l λp q=>aR p 0 (.I n) q λr=>aR p 1 (.I o) r λs=>aQ p 1 s λt=>bM (j+t) λu=>bM (k+1) λv=>i u v s) (c j l))
theorem WC.o {a b c}(d:WC.v a b c):WC.c a b c:=Wa Tryz.func18 (x:=WC.h) (R0 d)
def Wp.h:Hn:=.q .o2 (.q (.q .o3 .aJ) (.q (.o 12) .l))
def Wp.v (a:R2)(b c d:Int)(e:Hp)(f:Int->Int->Hp->Prop):Prop:=Wm.c a e λg h=>If (!g) (f 0 5 h) (bG a 0 h λj=>Yb.c j b c d h λk l m=>f k l m)
theorem Wp.o {a b c d e f}(g:Wp.v a b c d e f):Wp.c a b c d e f:=Wa Tryz.func21 (x:=Wp.h) (R0 g)
def WO.h:Hn:=.q .o1 (.q (.q .o3 .aK) (.q .o5 .l))
def WO.v (a:R2)(b:Hp)(c:Option Addr->Hp->Prop):Prop:=Wm.c a b λd e=>If (!d) (c none e) (bG a 0 e λg=>c g e)
theorem WO.o {a b c}(d:WO.v a b c):WO.c a b c:=Wa Tryz.func23 (x:=WO.h) (R0 d)
def Ww.h:Hn:=.q .o1 (.q (.q .o3 .aK) (.q .o7 (.q .o6 .aL)))
def Ww.v (a:R2)(b:Hp)(c:Sl->Hp->Prop):Prop:=Wm.c a b λd e=>If (!d) (c ⟨none,0,0⟩ e) (bF a 4 e λg=>Mk ((g.len:Nat):Int) ((g.len:Nat):Int) 16 62 [.I 0,.I 0] e λh i=>bF a 4 i λk=>sN h 2 k i λl m=>c h m)
theorem Ww.o {a b c}(d:Ww.v a b c):Ww.c a b c:=Wa Tryz.func27 (x:=Ww.h) (R0 d)
def Wx.h:Hn:=.q .o2 (.q (.q .o4 (.q .o2 (.c (.q .o3 .l) .l))) (.q .o6 (.q (.k (.loop [] (.q (.q .o6 (.c .l .l)) (.k .o3)))) (.q .o3 .l))))
def Wx.v (a:R2)(b:Int)(c:Hp)(d:Int->Int->Hp->Prop):Prop:=WL.c a b c λe f=>If (e != 0) (d 0 e f) (bF a 3 f λh=>Yf [] (λi=>i f) λj k=>bF a 3 k λm=>If (((m.len:Nat):Int)>0) (WE.c a b k λn=>j n) (d ((h.len:Nat):Int) 0 k))
theorem Wx.o {a b c d}(e:Wx.v a b c d):Wx.c a b c d:=Wa Tryz.func30 (x:=Wx.h) (R0 e)
def Wj.h:Hn:=.q .o1 (.q (.q .o4 (.q .o2 .aJ)) (.q (.q .o3 .aK) (.q .o9 (.q (.q .o2 (.c (.q .o8 .l) .l)) (.q (.o 11) (.q (.q .o2 .aJ) (.q (.q .o3 .aK) (.q (.q .o4 (.k (.loop [(56,.I)] (.q .o1 (.q (.c .l .l) (.q (.k (.q .o3 .o7)) .o2)))))) (.q (.cU (.held true [13] (.tk [0,1,2,3,4,5,6,7,8] (.all [(9,.all [(10,.take 11 (.take 12 (.all [(13,.done)])))])])))) (.q (.k (.loop [] (.q (.q (.cU (.gN true [] [(99,.one .b)] (.take 0 (.take 1 (.take 2 (.take 3 (.take 4 (.take 5 (.take 6 (.take 7 (.take 8 (.take 9 (.take 10 (.split 91 (.take 11 (.take 12 (.take 13 (.take 14 (.take 15 (.take 16 (.take 17 (.take 18 (.done))))))))) (.take 11 (.take 13 (.take 14 (.take 15 (.take 16 (.all [(12,.take 17 (.take 18 (.done)))])))))))))))))))))))) (.c .l .l)) (.k .o3)))) .aM))))))))))
def Wj.v (a:R2)(b c:Int)(d:Hp)(e:aN):Prop:=WL.c a b d λf g=>If (f != 0) (e f g) (WR.c a c g λh i=>If h (e 9 i) (WD.c a c i λj k l m n o=>aV #[.I 0,.I 0,.I 0,.I 0] 48 o λp q=>aR p 0 (.I j) q λr=>aR p 1 (.I k) r λs=>aR p 2 (.I l) s λt=>aR p 3 (.I m) t λu=>If (!n) (bG a 0 u λw=>Ze.c w b c u λx y=>e x y) (bG a 0 u λaa=>X1.c aa c u λab ac ad=>If (ac != 0) (e ac ad) (If (((ab.len:Nat):Int)>0) (e 10 ad) (aQ p 0 ad λae=>aQ p 1 ad λaf=>aQ p 2 ad λag=>aQ p 3 ad λah=>XR.c ae af ag ah ad λai aj=>Yf [bO] (λak=>ak 0 aj) λal (am:Int) an=>If (am<((ai.len:Nat):Int)) (Ix ai.a ai.len am 1 λao=>bN ao an λap=>bG a 0 an λar=>XD.c ar an λau av=>Xr.c au ap (-1234567) av λaw ax=>bM (am+1) λay=>al ay ax) (dY an λaz=>bW a λa0=>aT az a0 3 λa1=>aS az p 1 λa2=>aV #[.I c,.I a2] 101 an λa3 a4=>And (az a4) <| App a1 2 16 101 [.I 0,.I 0] ⟨some a3,1,1⟩ a4 λa5 a6=>And (az a6) <| bW a λa7=>aR a7 3 (.slice a5.a a5.len a5.cap) a6 λa8=>Yf [] (λa9=>a9 a8) λba bb=>Jn [.b] (λ(bc:Bool) bd=>If bc (WE.c a b bd λbe=>ba be) (e 0 bd)) λbf=>dY bb λbg=>bW a λbh=>aT bg bh 3 λbi=>bW a λbj=>aS bg bj 1 λbk=>If (((bi.len:Nat):Int)>bk) (bf true bb) (bW a λbl=>
 aS bg bl 2 λbm=>WC.c a bb λbn bo=>And (bg bo) <| bf (decide (bn>bm)) bo)))))))
theorem Wj.o {a b c d e}(f:Wj.v a b c d e):Wj.c a b c d e:=Wa Tryz.func34 (x:=Wj.h) (R0 f)
def Zz.h:Hn:=.q .o2 (.q (.q (.cU (.seq [.op,.op,.op,.op,.cX false 2 [.op,.op],.op,.cX false 2 [.op,.op],.op,.cX false 2 [.op,.op],.op,.cX false 2 [.op,.op]])) .aJ) (.q .o7 .l))
def Zz.v (a:R2)(b c:Int)(d:Hp)(e:Option Addr->Int->Hp->Prop):Prop:=XD.c a d λf g=>bX (λh i=>bX (λj k=>bX (λl m=>bX (λn o=>If n (e none 1 o) (aV #[.pointer a,.I b,.I c,.slice none 0 0,.slice none 0 0] 71 o λp q=>e (some p) 0 q)) λr=>If l (r true m) (r (decide (c>16384)) m)) λs=>If j (s true k) (s (decide (c<0)) k)) λt=>If h (t true i) (t (decide (b>64)) i)) λu=>If f.isNone (u true g) (u (decide (b<0)) g)
theorem Zz.o {a b c d e}(f:Zz.v a b c d e):Zz.c a b c d e:=Wa Tryz.func36 (x:=Zz.h) (R0 f)
def WG.h:Hn:=.q .o2 (.q (.q .o3 .aJ) (.q (.q .o3 .aJ) (.q .gA .l)))
def WG.v (a:R2)(b:Int)(c:Hp)(d:Int->Int->Hp->Prop):Prop:=Wm.c a c λe f=>If (!e) (d 0 5 f) (WK.c a b f λg h=>If g (d 0 9 h) (bG a 0 h λj=>Y9.c j b h λk l m=>d k l m))
theorem WG.o {a b c d}(e:WG.v a b c d):WG.c a b c d:=Wa Tryz.func37 (x:=WG.h) (R0 e)
def WP.h:Hn:=.q .o1 (.q (.q .o3 .aK) (.q (.q .o3 .aK) (.q .o8 .l)))
def WP.v (a:R2)(b c:Int)(d:Hp)(e:aN):Prop:=Wm.c a d λf g=>If (!f) (e 5 g) (WK.c a b g λh i=>If h (e 9 i) (bG a 0 i λk=>YN.c k b c i λl m=>e l m))
theorem WP.o {a b c d e}(f:WP.v a b c d e):WP.c a b c d e:=Wa Tryz.func40 (x:=WP.h) (R0 f)
def Wm.h:Hn:=.q .o1 (.q (.cU (.seq [.op,.op,.op,.cX true 5 (RI.ops 5),.op])) .l)
def Wm.v (a:R2)(b:Hp)(c:aO):Prop:=bX (λd e=>c d e) λf=>If (!a.isNone) (bG a 0 b λh=>f (!h.isNone) b) (f false b)
theorem Wm.o {a b c}(d:Wm.v a b c):Wm.c a b c:=Wa Tryz.func55 (x:=Wm.h) (R0 d)
def WL.h:Hn:=.q .o1 (.q (.q .o3 .aK) (.q .o6 (.q (.q (.cU (.seq [.op,.op,.op,.cX false 5 (RI.ops 5)])) .aK) (.q (.q .o4 .aK) .aM))))
def WL.v (a:R2)(b:Int)(c:Hp)(d:aN):Prop:=Wm.c a c λe f=>If (!e) (d 5 f) (bG a 0 f λh=>XD.c h f λi j=>bX (λk l=>If k (d 1 l) (YZ.c i b l λm n=>If (!(m.toList==(ByteArray.mk #[]).toList)) (d 5 n) (d 0 n))) λo=>If (b<0) (o true j) (XS.c i j λp q r s t u=>o (decide (b≥r)) u))
theorem WL.o {a b c d}(e:WL.v a b c d):WL.c a b c d:=Wa Tryz.func63 (x:=WL.h) (R0 e)
def WE.h:Hn:=.q .o8 (.q .gA (.q .gA (.q (.q .o2 (.c .l .l)) (.q (.cU (.held true [6] (.tk [0,1,2,3,4,5] (.all [(6,.tk [7,8,9,10,11] (.done))])))) (.q (.q .o2 (.c .l .l)) (.q (.q .o4 (.k (.loop [(7,.one .s),(52,.I)] (.q .o1 (.q (.c .l .l) (.q (.k (.q .o3 (.q (.o 12) (.q (.cU (.seq [.op,.op,.op,.cX false 2 [.op,.op]])) (.c .o5 .l))))) .o2)))))) (.kO [] (.q .o3 (.c (.cU (.held true [14] (.tk [0,1,2,3,4,5,6,7] (.all [(8,.take 9 (.all [(10,.all [(11,.take 12 (.take 13 (.all [(14,.done)])))])]))])))) .l)) (.cU (.tail 7 (RI.ops 7) [.op])))))))))
def WE.v (a:R2)(b:Int)(c:Hp)(d:aP):Prop:=bF a 3 c λf=>Ix f.a f.len 0 2 λg=>aQ g 0 c λh=>aQ g 1 c λi=>aV #[.I 0,.I 0] 101 c λj k=>aR j 0 (.I h) k λl=>aR j 1 (.I i) l λm=>bF a 3 m λo=>fH o 2 1 (o.len:Nat) (o.cap:Nat) λp=>Wh.c p m λq r=>bW a λs=>aR s 3 (.slice q.a q.len q.cap) r λt=>aQ j 0 t λu=>WD.c a u t λv w x y z aa=>aV #[.I 0,.I 0,.I 0,.I 0] 48 aa λab ac=>aR ab 0 (.I v) ac λad=>aR ab 1 (.I w) ad λae=>aR ab 2 (.I x) ae λaf=>aR ab 3 (.I y) af λag=>If (!z) (d ag) (dY ag λah=>bW a λai=>aU ah ai 0 λaj=>aS ah j 0 λak=>X1.c aj ak ag λal am an=>If (am != 0) (d an) (aQ ab 0 an λao=>aQ ab 1 an λap=>aQ ab 2 an λaq=>aQ ab 3 an λar=>XR.c ao ap aq ar an λau av=>Yf [.s,bO] (λaw=>aw al 0 av) λax (ay:Sl) (az:Int) a0=>If (az<((au.len:Nat):Int)) (Ix au.a au.len az 1 λa1=>bN a1 a0 λa2=>bG a 0 a0 λa4=>XD.c a4 a0 λa5 a6=>YC.c a5 a2 a6 λa7 a8 a9=>bX (λba bb=>If ba (aV #[.I a2] 3 bb λbc bd=>App ay 1 8 3 [.I 0] ⟨some bc,1,1⟩ bd λbe bf=>bM (az+1) λbg=>ax be bg bf) (bM (az+1) λbh=>ax ay bh bb)) λbi=>If (a8 != 0) (bi true a9) (bi (a7 != (-1234567)) a9)) (Jn [] (λbj=>bG a 0 bj λbl=>aQ j 0 bj λbm=>
 Zl.c bl b bm bj λbn bo=>d bo) λbp=>If (((ay.len:Nat):Int)>0) (dY a0 λbq=>bW a λbr=>aT bq br 4 λbs=>aS bq j 0 λbt=>W7.c ay a0 λbu bv=>And (bq bv) <| aV #[.I bt,.I bu] 62 bv λbw bx=>And (bq bx) <| App bs 2 16 62 [.I 0,.I 0] ⟨some bw,1,1⟩ bx λbz b0=>And (bq b0) <| bW a λb1=>aR b1 4 (.slice bz.a bz.len bz.cap) b0 λb2=>bp b2) (bp a0))))
theorem WE.o {a b c d}(e:WE.v a b c d):WE.c a b c d:=Wa Tryz.func64 (x:=WE.h) (R0 e)
def WR.h:Hn:=.q .o2 (.q .o7 .l)
def WR.v (a:R2)(b:Int)(c:Hp)(d:aO):Prop:=aV #[.I b] 3 c λe f=>bF a 3 f λh=>Wb.c h ⟨115,#[],#[.pointer (some e)]⟩ f λi j=>d i j
theorem WR.o {a b c d}(e:WR.v a b c d):WR.c a b c d:=Wa Tryz.func68 (x:=WR.h) (R0 e)
def WD.h:Hn:=.q .o2 (.q .o6 (.q .o8 (.q (.q .o2 (.c (.q .o3 .l) .l)) (.q .o6 .l))))
def WD.v (a:R2)(b:Int)(c:Hp)(d:Int->Int->Int->Int->Bool->Hp->Prop):Prop:=aV #[.I 0,.I 0,.I 0,.I 0] 48 c λe f=>bG a 0 f λh=>Zi.c h f λi j=>Wf.c i b ⟨117,#[],#[]⟩ j λk l m=>If (!l) (aR e 0 (.I 0) m λn=>aR e 1 (.I 0) n λo=>aR e 2 (.I 0) o λp=>aR e 3 (.I 0) p λq=>aQ e 0 q λr=>aQ e 1 q λs=>aQ e 2 q λt=>aQ e 3 q λu=>d r s t u false q) (Ix i.a i.len k 4 λv=>aQ v 0 m λw=>aQ v 1 m λx=>aQ v 2 m λy=>aQ v 3 m λz=>aR e 0 (.I w) m λaa=>aR e 1 (.I x) aa λab=>aR e 2 (.I y) ab λac=>aR e 3 (.I z) ac λad=>aQ e 0 ad λae=>aQ e 1 ad λaf=>aQ e 2 ad λag=>aQ e 3 ad λah=>d ae af ag ah true ad)
theorem WD.o {a b c d}(e:WD.v a b c d):WD.c a b c d:=Wa Tryz.func69 (x:=WD.h) (R0 e)
def XR.h:Hn:=.q .o2 (.q .o1 (.q (.q .o1 (.k (.loop [(3,.one .s),(4,.I)] (.q (.q .o4 (.c .l .l)) (.q (.k .o8) .o3))))) .aL))
def XR.v (a b c d:Int)(e:Hp)(f:Sl->Hp->Prop):Prop:=aV #[.I a,.I b,.I c,.I d] 48 e λg h=>Yf [.s,bO] (λi=>i ⟨none,0,0⟩ 0 h) λj (k:Sl) (l:Int) m=>aQ g 1 m λn=>If (l<n) (aQ g 0 m λo=>bM (o+l) λp=>aV #[.I p] 3 m λq r=>App k 1 8 3 [.I 0] ⟨some q,1,1⟩ r λs t=>bM (l+8) λu=>j s u t) (f k m)
theorem XR.o {a b c d e f}(g:XR.v a b c d e f):XR.c a b c d e f:=Wa Tryz.func72 (x:=XR.h) (R0 g)
def WK.h:Hn:=.q .o3 (.q .o7 .l)
def WK.v (a:R2)(b:Int)(c:Hp)(d:aO):Prop:=aV #[.pointer a] 33 c λe f=>aV #[.I b] 3 f λg h=>fX e h λi=>bF i 3 h λk=>Wb.c k ⟨121,#[],#[.pointer (some e),.pointer (some g)]⟩ h λl m=>d l m
theorem WK.o {a b c d}(e:WK.v a b c d):WK.c a b c d:=Wa Tryz.func75 (x:=WK.h) (R0 e)
def W5.h:Hn:=.q .o2 (.q .o5 .l)
def W5.v (a b:Int)(c:Addr)(d:Hp)(e:aO):Prop:=aV #[.I a,.I b] 101 d λf g=>aQ f 0 g λh=>bN c g λi=>e (h==i) g
theorem W5.o {a b c d e}(f:W5.v a b c d e):W5.c a b c d e:=Wa Tryz.func115 (x:=W5.h) (R0 f)
def WX.h:Hn:=.q .o2 (.q .o5 .l)
def WX.v (a b c d e:Int)(f:Hp)(g:aN):Prop:=aV #[.I a,.I b,.I c,.I d] 48 f λh i=>aQ h 0 i λj=>bM (j-e) λk=>g k i
theorem WX.o {a b c d e f g}(h:WX.v a b c d e f g):WX.c a b c d e f g:=Wa Tryz.func117 (x:=WX.h) (R0 h)
def WY.h:Hn:=.q .o2 (.q .gA (.q (.cU (.gN true [] [(4,.one .b)] (.take 0 (.take 1 (.split 15 (.take 2 (.take 4 (.all [(3,.all [(5,.take 6 (.take 7 (.done)))])]))) (.take 2 (.take 3 (.take 4 (.take 5 (.take 6 (.take 7 (.done)))))))))))) .l))
def WY.v (a b:Int)(c d:Addr)(e:Hp)(f:aO):Prop:=aV #[.I a,.I b] 101 e λg h=>fX c h λi=>aQ g 0 h λj=>WD.c i j h λk l m n o p=>aV #[.I 0,.I 0,.I 0,.I 0] 48 p λq r=>aR q 0 (.I k) r λs=>aR q 1 (.I l) s λt=>aR q 2 (.I m) t λu=>aR q 3 (.I n) u λv=>Jn [.b] (λ(w:Bool) x=>f w x) λy=>dY v λz=>If o (aS z q 0 λaa=>aS z q 1 λab=>aS z q 2 λac=>aS z q 3 λad=>gJ z bO d λ(ae:Int)=>XR.c aa ab ac ad v λaf ag=>And (z ag) <| Wv.c af ae ag λah ai=>And (z ai) <| y ah ai) (y false v)
theorem WY.o {a b c d e f}(g:WY.v a b c d e f):WY.c a b c d e f:=Wa Tryz.func121 (x:=WY.h) (R0 g)
end Go.Proofs
namespace Go.Ar
open Go Go.Vc Go.Proofs
open Go.Vc (bU dA cN)
variable {U σ0 v w w':Hp}{F P Q X T:Rg}{L:dE}{H H' H1:Hw}{held:List Pc}{s0 sp:Sp}{t n:Nat}{gb km fm m:Nat}{x y:Gu}{b:B5}
abbrev P2:=Int×Int
def lG (e:P2):List Value:=[.int .i64 e.1,.int .i64 e.2]
def gQ (l:List P2):List Value:=l.flatMap lG
theorem UV (l:List P2):(gQ l).length=l.length*2:=by
 induction l with
 | nil=>rfl
 | cons e l ih=>simp only[gQ,nY,zK,zS,lG,lf]at *;omega
theorem C4:∀{l:List P2} {i:Nat} {e:P2},l[i]?=some e->∀{d:Nat},d<2->(gQ l)[2*i+d]?=(lG e)[d]?
 | [],_,_,h,_,_=>by simp at h
 | y::l,0,e,h,d,hd=>by
  simp at h;subst h;have e1:gQ (y::l)=lG y++gQ l:=by simp[gQ]
  have a:(lG y).length=2:=rfl;rw[e1,zd O];congr 1;omega
 | y::l,i+1,e,h,d,hd=>by
  have e1:gQ (y::l)=lG y++gQ l:=by simp[gQ]
  have a:(lG y).length=2:=rfl;rw[e1,zr O,a,show 2*(i+1)+d-2=2*i+d by omega];exact C4 (by simpa using h) hd
theorem Fu:∀(l:List P2) (n:Nat),gQ (l.drop n)=(gQ l).drop (n*2)
 | l,0=>by simp
 | [],n+1=>by simp[gQ]
 | y::l,n+1=>by
  have e1:gQ (y::l)=lG y++gQ l:=by simp[gQ]
  have a:(lG y).length=2:=rfl;rw[vD,e1,Fu l n,List.drop_append,CU (l:=lG y) O,a,show(n+1)*2-2=n*2 by omega,rH]
theorem LD:∀(l:List P2),∀v∈gQ l,dV v=true:=by
 intro l v a;simp only[gQ,List.mem_flatMap,lG]at a;obtain⟨e,_,a⟩:=a;simp at a;rcases a with rfl|rfl<;>rfl
structure Qu where
 bl:Int
 by':Int
 q:List P2
 rs:List P2
def iC (l:List P2):Int:=(l.map (·.2)).sum
structure nJ (q:Qu):Prop where
 bl:0<=q.bl/\q.bl<=64
 by':0<=q.by'/\q.by'<=16384
 ql:q.q.length<=66
 qs:∀e∈q.q,1<=e.2/\e.2<=1024
 rl:q.rs.length<=10000
def Hj (q:Qu):Bool:=decide ((q.q.length:Int)>q.bl)||decide (iC q.q>q.by')
theorem TW (e:P2)(l:List P2):iC (e::l)=e.2+iC l:=by simp[iC]
theorem NP (l:List P2)(e:P2):iC (l++[e])=iC l+e.2:=by simp[iC]
theorem Mh {l:List P2}(h:∀e∈l,1<=e.2/\e.2<=1024):0<=iC l/\iC l<=l.length*1024:=by
 induction l with
 | nil=>simp[iC]
 | cons e l ih=>
  have b:=h e lW;have d:=ih λe a=>h e (lg _ a);rw[TW,zS];omega
def qE (sp:Sp)(b:B5):List Int:=(XC b).filter λz=>eM sp z != 0||QY sp z != Ui
def Ku (H:Hw)(b:B5):List Int:=QT H.sp b++qE H.sp b
def kI:List Int->Int
 | []=>0
 | a::l=>l.foldl (λm z=>if z<m then z else m) a
inductive gE (thread:Int) (H:Hw) (x:Gu) (q:Qu):Hw->Gu->Qu->Prop where
 | none {e:P2} {r:List P2}:q.q=e::r->(bU x.kn e.1=none\/k9 H x e.1≠0)->gE thread H x q H x {q with q:=r}
 | stay {e:P2} {r:List P2} {b:B5}:q.q=e::r->bU x.kn e.1=some b->k9 H x e.1=0->mf H x thread e.1 false≠0->gE thread H x q H x ⟨q.bl,q.by',r,if Ku H b=[]then q.rs else q.rs++[(e.1,kI (Ku H b))]⟩
 | free {e:P2} {r:List P2} {b:B5} {H1:Hw} {er:Int}:q.q=e::r->bU x.kn e.1=some b->k9 H x e.1=0->mf H x thread e.1 false=0->KN (dP H b) thread 1 0 0 b.2.2.1 H1 0 er->fS (dP H b) H1->nU (dP H b) thread b.2.2.1 H1 er →
  gE thread H x q H1 (x.gone e.1) ⟨q.bl,q.by',r,if Ku H b=[]then q.rs else q.rs++[(e.1,kI (Ku H b))]⟩
inductive iL (thread:Int):Hw->Gu->Qu->Hw->Gu->Qu->Prop where
 | stop {H:Hw} {x:Gu} {q:Qu}:Hj q=false->iL thread H x q H x q
 | next {H H1 H':Hw} {x x1 x':Gu} {q q1 q':Qu}:Hj q=true->gE thread H x q H1 x1 q1->iL thread H1 x1 q1 H' x' q'->iL thread H x q H' x' q'
inductive iE (thread:Int):Hw->Gu->Qu->Hw->Gu->Qu->Prop where
 | stop {H:Hw} {x:Gu} {q:Qu}:q.q=[]->iE thread H x q H x q
 | next {H H1 H':Hw} {x x1 x':Gu} {q q1 q':Qu}:gE thread H x q H1 x1 q1->iE thread H1 x1 q1 H' x' q'->iE thread H x q H' x' q'
def vF (gb:Nat)(q:Qu)(qs rs:Sl):List Value:=[.pointer (some ⟨gb,0,none⟩),.int .i64 q.bl,.int .i64 q.by',.slice qs.a qs.len qs.cap,.slice rs.a rs.len rs.cap]
def jW (P:Rg)(gb km fm qb:Nat)(Qq Qr:Rg):Rg:=λb=>Mg P gb km fm b\/b=qb\/Qq b\/Qr b
structure QP (σ0 U:Hp) (L:dE) (H:Hw) (held:List Pc) (s0:Sp) (P:Rg) (gb km fm:Nat) (x:Gu) (qb:Nat) (Qq Qr:Rg) (qs rs:Sl) (q:Qu):Prop where
 p:GP σ0 U L H held s0 P gb km fm x
 b:bY U qb (vF gb q qs rs)
 rq:bT qs 2 (gQ q.q) U Qq
 rr:bT rs 2 (gQ q.rs) U Qr
 tG:σ0.size<=qb/\¬Mg P gb km fm qb/\¬Qq qb/\¬Qr qb
 qq:∀b,Qq b->σ0.size<=b/\b<U.size/\¬Mg P gb km fm b
 qr:∀b,Qr b->σ0.size<=b/\b<U.size/\¬Mg P gb km fm b
 dj:∀b,Qq b->¬Qr b
 i:nJ q
variable {qb:Nat}{Qq Qr:Rg}{qs rs:Sl}{q:Qu}
theorem QP.fr (o:QP σ0 U L H held s0 P gb km fm x qb Qq Qr qs rs q)(e:aF U w):QP σ0 w L H held s0 P gb km fm x qb Qq Qr qs rs q:=
 ⟨o.p.fr e,e.bV o.b id,aI.bP o.rq e,aI.bP o.rr e,o.tG,λb a=>by have h:=o.qq b a;have:=e.1;exact⟨h.1,O,h.2.2⟩,λb a=>by have h:=o.qr b a;have:=e.1;exact⟨h.1,O,h.2.2⟩,o.dj,o.i⟩
theorem QP.eV (o:QP σ0 U L H held s0 P gb km fm x qb Qq Qr qs rs q){L':dE}{held':List Pc}{s0':Sp}{P':Rg}(e:Ext (Mg P gb km fm) U w)(p':GP σ0 w L' H' held' s0' P' gb km fm y)(hP:∀b,P' b->P b\/U.size<=b) :
 QP σ0 w L' H' held' s0' P' gb km fm y qb Qq Qr qs rs q:=by
 have E:=e.1;have d:=o.b.lt;obtain⟨u,s,A,z⟩:=o.tG;have r:∀b,b<U.size->¬Mg P gb km fm b->¬Mg P' gb km fm b:=λb D B C=>by
  rcases Jl ⟨o.p.b.lt,o.p.m.lt,o.p.f.lt⟩ hP b C with h4|h4
  ·exact B h4
  ·omega
 exact⟨p',e.bV o.b s,aI.bS o.rq e λb _ j a=>(o.qq b j).2.2 a,aI.bS o.rr e λb _ j a=>(o.qr b j).2.2 a,⟨u,r _ d s,A,z⟩,λb g=>by have h:=o.qq b g;exact⟨h.1,O,r b h.2.1 h.2.2⟩,λb g=>by have h:=o.qr b g;exact⟨h.1,O,r b h.2.1 h.2.2⟩,o.dj,o.i⟩
theorem QP.out (o:QP σ0 U L H held s0 P gb km fm x qb Qq Qr qs rs q)(e:Ext T U w)(hT:∀b,b<U.size->T b->¬jW P gb km fm qb Qq Qr b/\σ0.size<=b):QP σ0 w L H held s0 P gb km fm x qb Qq Qr qs rs q:=by
 have s:=e.1;have j:=o.b.lt;refine⟨o.p.out e λb a d=>?_,e.bV o.b λd=>(hT qb j d).1 (.inr (.inl rfl)),aI.bS o.rq e λb a m d=>(hT b a d).1 (.inr (.inr (.inl m))),aI.bS o.rr e λb a m d=>(hT b a d).1 (.inr (.inr (.inr m))),o.tG,λb a=>by have h:=o.qq b a;exact⟨h.1,O,h.2.2⟩,λb a=>by have h:=o.qr b a;exact⟨h.1,O,h.2.2⟩,o.dj,o.i⟩;have h:=hT b a d;have g:=VC λr=>h.1 (.inl r);exact⟨g.1,g.2.1,g.2.2.1,g.2.2.2,h.2⟩
theorem QP.xF (o:QP σ0 U L H held s0 P gb km fm x qb Qq Qr qs rs q){s':Sl}{l':List P2}{Q':Rg}(e:Ext Qq U w)(hr:bT s' 2 (gQ l') w Q')(hQ:∀b,Q' b->Qq b\/U.size<=b/\b<w.size)(hi:nJ {q with q:=l'}){K:aP}
 (hK:∀u,Ext (· = qb) w u->QP σ0 u L H held s0 P gb km fm x qb Q' Qr s' rs {q with q:=l'}->K u):dQ (Addr.add ⟨qb,0,none⟩ 3) (.slice s'.a s'.len s'.cap) w K:=by
 have M:=e.1;have F:=o.b.lt;obtain⟨C,B,z,y⟩:=o.tG;have D:=o.p.out e λb _ d=>by have h:=o.qq b d;have g:=VC h.2.2;exact⟨g.1,g.2.1,g.2.2.1,g.2.2.2,h.1⟩
 have m:=aI.bS o.rr e λb _ i J=>o.dj b J i;refine(e.bV o.b z).s1 (by simp[vF]) λu s b=>?_;have j:=s.ext;have G:=s.1;have g:=VC B;have A:¬Q' qb:=λh=>by
  rcases hQ qb h with h|h
  ·exact z h
  ·omega
 refine hK u j ⟨D.out j λb _ (d:b=qb)=>by subst d;exact⟨g.1,g.2.1,g.2.2.1,g.2.2.2,C⟩,b,aI.bS hr j λb _ r (d:b=qb)=>A (d▸r),aI.bS m j λb _ r (d:b=qb)=>y (d▸r),⟨C,B,A,y⟩,λb d=>?_,λb d=>by have h:=o.qr b d;exact⟨h.1,O,h.2.2⟩,λb d i=>?_,hi⟩
 ·rcases hQ b d with d|d
  ·have h:=o.qq b d;exact⟨h.1,O,h.2.2⟩
  ·have:=o.p.e.1;exact⟨O,O,λE=>by have:=uX o.p E;omega⟩
 ·rcases hQ b d with d|d
  ·exact o.dj b d i
  ·have:=(o.qr b i).2.1;omega
theorem QP.gF (o:QP σ0 U L H held s0 P gb km fm x qb Qq Qr qs rs q){s':Sl}{l':List P2}{Q':Rg}(e:Ext Qr U w)(hr:bT s' 2 (gQ l') w Q')(hQ:∀b,Q' b->Qr b\/U.size<=b/\b<w.size)(hi:nJ {q with rs:=l'}){K:aP}
 (hK:∀u,Ext (· = qb) w u->QP σ0 u L H held s0 P gb km fm x qb Qq Q' qs s' {q with rs:=l'}->K u):dQ (Addr.add ⟨qb,0,none⟩ 4) (.slice s'.a s'.len s'.cap) w K:=by
 have M:=e.1;have G:=o.b.lt;obtain⟨C,B,z,y⟩:=o.tG;have D:=o.p.out e λb _ d=>by have h:=o.qr b d;have g:=VC h.2.2;exact⟨g.1,g.2.1,g.2.2.1,g.2.2.2,h.1⟩
 have r:=aI.bS o.rq e λb _ i J=>o.dj b i J;refine(e.bV o.b y).s1 (by simp[vF]) λu s b=>?_;have j:=s.ext;have F:=s.1;have g:=VC B;have A:¬Q' qb:=λh=>by
  rcases hQ qb h with h|h
  ·exact y h
  ·omega
 refine hK u j ⟨D.out j λb _ (d:b=qb)=>by subst d;exact⟨g.1,g.2.1,g.2.2.1,g.2.2.2,C⟩,b,aI.bS r j λb _ m (d:b=qb)=>z (d▸m),aI.bS hr j λb _ m (d:b=qb)=>A (d▸m),⟨C,B,z,A⟩,λb d=>by have h:=o.qq b d;exact⟨h.1,O,h.2.2⟩,λb d=>?_,λb d i=>?_,hi⟩
 ·rcases hQ b d with d|d
  ·have h:=o.qr b d;exact⟨h.1,O,h.2.2⟩
  ·have:=o.p.e.1;exact⟨O,O,λE=>by have:=uX o.p E;omega⟩
 ·rcases hQ b i with i|i
  ·exact o.dj b d i
  ·have:=(o.qq b d).2.1;omega
theorem Lg (o:QP σ0 U L H held s0 P gb km fm x qb Qq Qr qs rs q){c:Nat}(h:jW P gb km fm qb Qq Qr c):σ0.size<=c/\c<U.size:=by
 rcases h with h|rfl|h|h
 ·refine⟨?_,uX o.p h⟩;rcases h with h|rfl|rfl|rfl
  ·exact(o.p.pP c h).1
  ·exact o.p.sg.1
  ·exact o.p.s7.1
  ·exact o.p.tz.1
 ·exact⟨o.tG.1,o.b.lt⟩
 ·have:=o.qq c h;exact⟨this.1,this.2.1⟩
 ·have:=o.qr c h;exact⟨this.1,this.2.1⟩
theorem tu {s:Sl}{l:List P2}(hs:cV s 2 (gQ l) U F){i:Nat}{e:P2}(hb:l[i]?=some e){K:Addr->Prop}(hK:∀bb o,(∀(j:Nat) v,(lG e)[j]?=some v->cell U ⟨bb,o+j,none⟩=some v)->K ⟨bb,o,none⟩):Ix s.a s.len (i:Int) 2 K:=by
 have u:=(cY.1 hb).1;have w:s.len=l.length:=by have:=hs.1;rw[UV]at this;omega
 obtain⟨b,o,g,_⟩:=hs.cell (j:=2*i+0) (v:=.int .i64 e.1) ((C4 hb O).trans rfl);rw[g];refine ix O O ?_;rw[add_lit];refine hK b _ λj v m=>?_;have r:j<2:=(cY.1 m).1;obtain⟨x,y,d,p⟩:=hs.cell ((C4 hb r).trans m);rw[g]at d;cases d;rw[show o+(i:Int).toNat*2+j=o+(2*i+j) by omega];exact p
theorem _root_.Go.Vc.bT.jn {s:Sl}{l:List P2}(h:bT s 2 (gQ l) U F):s.len=l.length:=by have:=h.1;rw[UV]at this;omega
theorem uK {ty:Nat}{a c:Int}{K:Addr->Hp->Prop}(hK:∀w',aF U w'->w'.size=U.size+1->bY w' U.size [.int .i64 a,.int .i64 c]->K ⟨U.size,0,none⟩ w'):Nw (.cells #[.int .i64 0,.int .i64 0] ty (0,0)) U λn v20=>dQ (n.add 0) (.int .i64 a) v20 λv21=>dQ (n.add 1) (.int .i64 c) v21 λv22=>K n v22:=
 nw (cs:=[.int .i64 0,.int .i64 0]) λv20 r g m=>m.s1 aA λv21 d p=>p.s1 aA λv22 b j=>
  hK v22 (Ext.fresh g (d.ext.trans b.ext) λi (hi:i=U.size)=>O) (by have:=d.1;have:=b.1;omega) j
theorem pZ {ty:Nat}{a b c d:Int}{K:Addr->Hp->Prop}(hK:∀w',aF U w'->bY w' U.size (lM (a,b,c,d))->K ⟨U.size,0,none⟩ w'):Nw (.cells #[.int .i64 0,.int .i64 0,.int .i64 0,.int .i64 0] ty (0,0)) U λn v20=>dQ (n.add 0) (.int .i64 a) v20 λv21=>dQ (n.add 1) (.int .i64 b) v21 λv22=>dQ (n.add 2) (.int .i64 c) v22 λv23=>dQ (n.add 3) (.int .i64 d) v23 λv24=>K n v24:=
 nw (cs:=[.int .i64 0,.int .i64 0,.int .i64 0,.int .i64 0]) λv20 z g u=>u.s1 aA λv21 p y=>y.s1 aA λv22 m j=>j.s1 aA λv23 x s=>s.s1 aA λv24 w r=>
  hK v24 (Ext.fresh g (((p.ext.trans m.ext).trans x.ext).trans w.ext) λi (hi:i=U.size)=>O) r
theorem IM {s:Sl}{l:List P2}(hr:bT s 2 (gQ l) U Q)(hl:l.length<=100000)(k:P2){S:aP}(hS0:∀u,aF U u->S u){e t:Nat}{K:Sl->Hp->Prop}
 (hK:∀s' w,Ext Q U w->bT s' 2 (gQ (l++[k])) w (λb=>Q b\/U.size<=b/\b<w.size)->S w/\K s' w) :
 Nw (.cells #[.int .i64 k.1,.int .i64 k.2] t (0,0)) U λn v=>And (S v)<|App s 2 16 e [.int .i64 0,.int .i64 0] ⟨some n,1,1⟩ v λs' w=>And (S w)<|K s' w:=by
 have i:=hr.jn;refine nw (cs:=lG k) λv z e1 g=>⟨hS0 v e1,?_⟩;have a:=aI.bP hr e1;refine a.app (ys:=lG k) rfl (by simp[lG]) ?_ (by simp[lG,dV]) ?_ ?_ nh λs' h' y m d=>?_
 ·intro j u hu;rw[add_lit,zH,g.cell];exact hu
 ·simp only;omega
 ·simp only;omega
 ·have r:Ext Q U h':=e1.to.trans m;refine hK s' h' r ?_;have:gQ (l++[k])=gQ l++lG k:=by simp[gQ]
  rw[this];refine aI.mono (aI.cut d) λb x p=>?_;rcases p.1 with h1|h1
  ·exact .inl h1
  ·exact .inr ⟨O,x⟩
end Go.Ar