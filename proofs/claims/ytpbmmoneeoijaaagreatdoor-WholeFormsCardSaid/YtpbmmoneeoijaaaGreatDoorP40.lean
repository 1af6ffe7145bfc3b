/-
  A part of the proof: AggEq SameV RightV Check10V.
-/
import Derived.Test.YtpbmmoneeoijaaaGreatDoorP36
import Derived.DeepKeys
namespace Go.Proofs.YtpbmmoneeoijaaaGreatDoor
open Go.RowKit Go.Deep Go.Shelf
set_option maxRecDepth 100000
set_option maxHeartbeats 8000000
def numT (P:Program):Nat→TypeId→Bool
 |0,_=>false
 |m+1,t=>match P.underlying t with
  |some (.int _)=>P.cellsOf t == 1
  |some (.array n e)=>numT P m e && (P.info? e).isSome && (P.info? t).isSome && P.cellsOf t == n * P.cellsOf e
  |some (.struct fs)=>fs.all (fun f=>f.name != "_" && numT P m f.type && decide (f.offset+P.cellsOf f.type≤P.cellsOf t)) && !P.stoodInHeld t && (P.info? t).isSome
  |_=>false
def NumV (P:Program) (t:TypeId) (v:Value):Prop:=match P.underlying t with
 |some (.int _)=>∃ k n,v=.int k n
 |_=>∃ xs,v=.agg xs∧xs.size=P.cellsOf t∧∀ i,i < xs.size→∃ k n,xs[i]? =some (.int k n)
theorem zyh {P:Program} {m:Nat} {e:TypeId} {xs:Array Value} {off:Nat} (hn:numT P m e=true) (hx:∀ i,i < xs.size→∃ k n,xs[i]? =some (.int k n)) (ho:off+P.cellsOf e≤xs.size):∃ a,(∀ w,(part e xs off).run P w=.ok a w)∧NumV P e a:=by
 cases m with
 |zero=>simp [numT] at hn
 |succ m=>
  have sub:∃ ys:Array Value,ys=xs.extract off (off+P.cellsOf e)∧ys.size=P.cellsOf e∧∀ i,i < ys.size→∃ k n,ys[i]? =some (.int k n):=by
   refine⟨_,rfl,by simp;omega,fun i hi=>?_⟩;have hi2:i < P.cellsOf e:=by simp at hi;omega
   obtain⟨k,n,h⟩:=hx (off+i) (by omega);refine⟨k,n,?_⟩;rw [Array.getElem?_extract,if_pos (by omega)];exact h
  obtain⟨ys,hys,h1,h2⟩:=sub;unfold numT at hn;unfold NumV
  cases hu:P.underlying e with
  |none=>simp [hu] at hn
  |some kd=>
   cases kd<;>simp only [hu,Bool.false_eq_true] at hn
   case int q=>
    have hc:P.cellsOf e=1:=by simpa using hn
    obtain⟨k,n,h⟩:=hx off (by omega);exact⟨_,fun w=>by simp [part,isAgg,run_underlying hu,h],k,n,rfl⟩
   case array n t=>
    simp only [Bool.and_eq_true] at hn;obtain⟨i,hi⟩:=Option.isSome_iff_exists.1 hn.1.2;exact⟨.agg ys,fun w=>by simp [part,isAgg,run_underlying hu,run_sizeOf w hi,hys],ys,rfl,h1,h2⟩
   case struct fs=>
    simp only [Bool.and_eq_true] at hn;obtain⟨i,hi⟩:=Option.isSome_iff_exists.1 hn.2;exact⟨.agg ys,fun w=>by simp [part,isAgg,run_underlying hu,run_sizeOf w hi,hys],ys,rfl,h1,h2⟩
theorem zn9 {P:Program} (d:Nat) (xs:Array Value):∀ fs:List Field,(∀ f∈fs,f.name≠ "_"∧∃ a,(∀ w,(part f.type xs f.offset).run P w=.ok a w)∧∀ w,(Op.equalIn d f.type a a).run P w=.ok true w)→∀ w,(Op.eqFields d xs xs fs).run P w=.ok true w
 | [],_,w=>by simp [Op.eqFields]
 |f :: fs,h,w=>by
  obtain⟨h1,a,h2,h3⟩:=h f (by simp);have h4:=zn9 d xs fs (fun g hg=>h g (by simp [hg])) w;simp [Op.eqFields,h1,Sem.run_bind,h2,h3,h4]
theorem zqk {P:Program} (d:Nat) {e:TypeId} (xs:Array Value):∀ is:List Nat,(∀ i∈is,∃ a,(∀ w,(part e xs (i * P.cellsOf e)).run P w=.ok a w)∧∀ w,(Op.equalIn d e a a).run P w=.ok true w)→∀ w,(Op.eqItems d e (P.cellsOf e) xs xs is).run P w=.ok true w
 | [],_,w=>by simp [Op.eqItems]
 |i :: is,h,w=>by
  obtain⟨a,h2,h3⟩:=h i (by simp);have h4:=zqk d xs is (fun g hg=>h g (by simp [hg])) w;simp [Op.eqItems,Sem.run_bind,h2,h3,h4]
theorem zvo {P:Program} (d:Nat):∀ (m:Nat) (t:TypeId) (v:Value),numT P m t=true→NumV P t v→∀ w,(Op.equalIn (d+m) t v v).run P w=.ok true w
 |0,_,_,h,_,_=>by simp [numT] at h
 |m+1,t,v,hn,hv,w=>by
  unfold numT at hn;unfold NumV at hv
  cases hu:P.underlying t with
  |none=>simp [hu] at hn
  |some kd=>
   cases kd<;>simp only [hu,Bool.false_eq_true] at hn hv
   case int q=>
    obtain⟨k,n,rfl⟩:=hv;rw [show d+(m+1)=(d+m)+1 from rfl,run_equalIn_int (h:=hu)];simp
   case array n e=>
    simp only [Bool.and_eq_true,beq_iff_eq] at hn;obtain⟨⟨⟨h1,h2⟩,_⟩,h3⟩:=hn;obtain⟨xs,rfl,h4,h5⟩:=hv;obtain⟨i,hi⟩:=Option.isSome_iff_exists.1 h2;rw [show d+(m+1)=(d+m)+1 from rfl,run_equalIn_array w (d+m) xs xs hu hi];refine zqk (d+m) xs _ (fun j hj=>?_) w;have hj:j < n:=by simpa using hj
    have hle:j * P.cellsOf e+P.cellsOf e≤xs.size:=by
     rw [h4,h3];have:=Nat.mul_le_mul_right (P.cellsOf e) (show j+1≤n by omega);rw [Nat.add_mul,Nat.one_mul] at this;exact this
    obtain⟨a,ha,hva⟩:=zyh h1 h5 hle;exact⟨a,ha,fun w=>zvo d m e a h1 hva w⟩
   case struct fs=>
    simp only [Bool.and_eq_true,Bool.not_eq_true'] at hn;obtain⟨⟨h1,h2⟩,_⟩:=hn;obtain⟨xs,rfl,h4,h5⟩:=hv;have hfs:P.fieldsOf t=fs:=by simp [Program.fieldsOf,hu]
    rw [show d+(m+1)=(d+m)+1 from rfl,run_equalIn_struct w (d+m) t xs xs (by rw [hfs];exact hu) h2,hfs];refine zn9 (d+m) xs _ (fun f hf=>?_) w;have h6:=Array.all_eq_true_iff_forall_mem.1 h1 f (Array.mem_toList_iff.1 hf);simp only [Bool.and_eq_true,bne_iff_ne,ne_eq,decide_eq_true_eq] at h6;obtain⟨a,ha,hva⟩:=zyh (off:=f.offset) h6.1.2 h5 (by rw [h4];exact h6.2);exact⟨h6.1.1,a,ha,fun w=>zvo d m f.type a h6.1.2 hva w⟩
theorem zyj {P:Program} {t:TypeId} {cs:Array Value} (hk:numT P 5 t=true) (hv:NumV P t (.agg cs)) (w:World):(binOp .neq t (.agg cs) (.agg cs)).run P w=.ok (.bool false) w:=by
 have h1:=zvo 9995 5 t _ hk hv w;simp only [binOp];simp [Op.equal,Op.maxDepth,h1]
theorem zDg {P:Program} {t:TypeId} {cs:Array Value} (h0:(match P.underlying t with|some (.int _)=>false|_=>true)=true) (h1:cs.size=P.cellsOf t) (h2:∀ i,i < cs.size→∃ k n,cs[i]? =some (.int k n)):NumV P t (.agg cs):=by
 unfold NumV
 split
 ·rename_i h;rw [h] at h0;cases h0
 ·exact⟨cs,rfl,h1,h2⟩
theorem neq_task (x:Nat→Int) (w:World):(binOp .neq 165 (.agg (tvL x).toArray) (.agg (tvL x).toArray)).run Tryz.prog w=.ok (.bool false) w:=
 zyj (by kernel_rfl) (zDg (by kernel_rfl) (by kernel_rfl) fun i hi=>by
  have hi:i < 11:=hi;rcases i with _|_|_|_|_|_|_|_|_|_|_|i
  all_goals first|exact⟨_,_,rfl⟩|omega) w
theorem neq_edge (x:Nat→Int) (w:World):(binOp .neq 176 (.agg (zbf x).toArray) (.agg (zbf x).toArray)).run Tryz.prog w=.ok (.bool false) w:=
 zyj (by kernel_rfl) (zDg (by kernel_rfl) (by rw [List.size_toArray,zcb];kernel_rfl) fun i hi=>by
  have hi:i < 23:=by simpa [zcb] using hi
  exact⟨_,_,by rw [List.getElem?_toArray];exact zgk x hi⟩) w
attribute [local go_sem] zaq
set_option maxRecDepth 100000
theorem ztw {P:Program} {o:Oper} {a:Act} {C:World→Prop} {K:Act→Prop} (t u:TypeId) (x y:Operand) (ho:o.op=.binOp .neq t x y u) (vx vy:Array Value) (hx:a.eval x=.agg vx) (hy:a.eval y=.agg vy) (hg:P.eqGuardType P.depth t=false) (h:∀ w,(binOp .neq t (.agg vx) (.agg vy)).run P w=.ok (.bool false) w) (hk:K (a.put o.dst (.bool false))):o.quiet P a C K:=by
 refine⟨_,fun w hw=>?_,hk⟩;unfold Oper.quietAt execOp;simp [ho,hx,hy,h,eqGuard,hg,run_program,Sem.run_bind,Sem.run_pure];exact⟨rfl,rfl⟩
def bxI (x:Img):Obj:=.cells #[qI x.r,.slice x.ao x.n x.cap,.slice x.mo x.mn x.mc,.slice x.eo x.en x.ec] 26
theorem zA5 (x y:Img) (g:Nat→Nat→Int) (M K:Nat→zas) (q:Nat→Nat→Nat→Int) (h:Nat→Nat→Int) (w:World) (hx:zdr w x g M q h) (hy:zdr w y g K q h)
  (er:y.r=x.r) (en:y.n=x.n) (em:y.mn=x.mn) (ee:y.en=x.en) (hK:∀ i,i < x.mn→(K i).t=(M i).t∧(K i).qn=(M i).qn):
  Calls Tryz.prog 32 #[iv x,iv y] w fun e w'=>e=.returned (.bool true)∧Below w.heap.size w w':=by
 have HTX:=hid hx.tasks;have HTY:=hid hy.tasks;have HEX:=hid hx.edges;have HEY:=hid hy.edges;have hnn:=hx.n;have hmn:=hx.mn;have hee:=hx.en;unfold maxLen at hnn hmn hee;have hb1:=qBr (w:=w) (bxI x);have hB0:=hb1.alloc hb1.size (bxI y);have bX:=zac (heap_alloc_new w (bxI x)) (bxI y);have bY:=heap_alloc_new (w.alloc (bxI x)) (bxI y);rw [World.size_alloc] at bY;unfold bxI at hB0 bX bY;unfold iv;rw [er,en,em,ee] at bX bY hB0 ⊢;rw [en] at HTY;rw [ee] at HEY;have c0:=zaa bX 0;have c1:=zaa bX 1;have c2:=zaa bX 2;have c3:=zaa bX 3;have d0:=zaa bY 0;have d1:=zaa bY 1;have d2:=zaa bY 2;have d3:=zaa bY 3;clear hb1 er en ee;go_enter Tryz.func32,Tryz.ntmps32
 go_upto_region 4 with fail
 obtain⟨W0,hW0⟩:∃ W,W=(w.alloc (qC #[qI x.r,.slice x.ao x.n x.cap,.slice x.mo x.mn x.mc,.slice x.eo x.en x.ec] 26)).alloc (qC #[qI x.r,.slice y.ao x.n y.cap,.slice y.mo x.mn y.mc,.slice y.eo x.en y.ec] 26):=⟨_,rfl⟩;rw [←hW0] at hB0 bX bY ⊢;have HB:=hid hB0;have HX:=hid bX;have HY:=hid bY;have HXM:=hid hx.modes;have HYM:=hid (show zcu w y.mo x.mn K from em▸hy.modes);have HXQ:=hid hx.queues;have HXN:=hid hx.qn;have HYQ:=hid fun (i:Nat) (hi:i < x.mn)=>hy.queues i (by omega);have HK:=hid hK;clear em hW0 hB0 bX bY c0 c1 c2 c3 d0 d1 d2 d3 hx hy hK;go_wp2
 go_loopw [5] (fun i_ wr=>∃ i:Nat,i≤x.n∧i_=qI i∧Hid (Below W0.heap.size W0 wr)) (fun i_ _=>x.n - (intOf i_).toNat)
 case atStart=>exact⟨0,by omega,rfl,hid (.refl _ _)⟩
 case round=>
  obtain⟨i,hi,rfl,HR⟩:=hrel;have bX:=(HR.out.block _ (qLt HX.out)).trans HX.out;have bY:=(HR.out.block _ (qLt HY.out)).trans HY.out;have c1:=zaa bX 1;by_cases hlt:i < x.n
  ·have t0:decide ((i:Int) < (x.n:Int))=true:=by simp;omega
   have HBR:=hid (HB.out.trans (HR.out.mono HB.out.size));obtain⟨b1,o1,ha1,h1⟩:=(HTX.out.below HBR.out) i hlt;obtain⟨b2,o2,ha2,h2⟩:=(HTY.out.below HBR.out) i hlt;have R1:=hid (zbr (znx (W:=wr) h1));have R2:=hid (zbr (znx (W:=wr) h2));rw [ha1] at bX c1;rw [ha2] at bY;have j0:(0:Int)≤(i:Int):=by omega
   have j1:(i:Int) < (x.n:Int):=by omega
   have C1:=Cls.cell (zaa bX 1);have D1:=Cls.cell (zaa bY 1);clear h1 h2 ha1 ha2
   go_upto_region 6 with fail
   refine zag (by kernel_rfl) (by kernel_rfl) ?_
   repeat (go_big_quiet_step (fail))
   go_big_quiet_want
   refine zbp 165 _ rfl b1 (o1+i * 11) rfl (tvL (g i)) _ R1.out Tryz.underlying165 rfl (zrp _) ?_;go_simp
   go_big_quiet_on
   repeat (go_big_quiet_step (fail))
   go_big_quiet_want
   refine zbp 165 _ rfl b2 (o2+i * 11) rfl (tvL (g i)) _ R2.out Tryz.underlying165 rfl (zrp _) ?_;go_simp
   go_big_quiet_on
   go_big_quiet_want
   refine ztw 165 _ _ _ rfl _ _ rfl rfl (by kernel_rfl) (neq_task (g i)) ?_;go_simp
   go_big_quiet_on
   refine wpQuiet_nil ?_;intro _ hw';obtain⟨nq,rfl⟩:=hw';have HR2:=hid (HR.out.trans (nq.below.mono HR.out.size));clear C1 D1 R1 R2 bX bY c1;go_wp2;go_roundw
   case rel=>exact⟨i+1,by omega,by go_num,HR2⟩
   case measure=>simp [intOf];omega
  ·obtain rfl:i=x.n:=by omega
   have t0:decide ((x.n:Int) < (x.n:Int))=false:=by simp
   have HBR:=hid (HB.out.trans (HR.out.mono HB.out.size));clear bX bY;go_wp2;clear c1 t0 hi HTX HTY
   go_loopw [6] (fun i_ wr=>∃ i:Nat,i≤x.en∧i_=qI i∧Hid (Below W0.heap.size W0 wr)) (fun i_ _=>x.en - (intOf i_).toNat)
   case atStart=>exact⟨0,by omega,rfl,HR⟩
   case round=>
    clear HR HBR;obtain⟨i,hi,rfl,HR⟩:=hrel;have bX:=(HR.out.block _ (qLt HX.out)).trans HX.out;have bY:=(HR.out.block _ (qLt HY.out)).trans HY.out;have c3:=zaa bX 3;by_cases hlt:i < x.en
    ·have t0:decide ((i:Int) < (x.en:Int))=true:=by simp;omega
     have HBR:=hid (HB.out.trans (HR.out.mono HB.out.size));obtain⟨b1,o1,ha1,h1⟩:=(HEX.out.below HBR.out) i hlt;obtain⟨b2,o2,ha2,h2⟩:=(HEY.out.below HBR.out) i hlt;have R1:=hid (zbr (zce (W:=wr) h1));have R2:=hid (zbr (zce (W:=wr) h2));rw [ha1] at bX c3;rw [ha2] at bY;have j0:(0:Int)≤(i:Int):=by omega
     have j1:(i:Int) < (x.en:Int):=by omega
     have C1:=Cls.cell (zaa bX 3);have D1:=Cls.cell (zaa bY 3);clear h1 h2 ha1 ha2
     go_upto_region 11 with fail
     refine zag (by kernel_rfl) (by kernel_rfl) ?_
     repeat (go_big_quiet_step (fail))
     go_big_quiet_want
     refine zbp 176 _ rfl b1 (o1+i * 23) rfl (zbf (h i)) _ R1.out Tryz.underlying176 rfl (za4 _) ?_;go_simp
     go_big_quiet_on
     repeat (go_big_quiet_step (fail))
     go_big_quiet_want
     refine zbp 176 _ rfl b2 (o2+i * 23) rfl (zbf (h i)) _ R2.out Tryz.underlying176 rfl (za4 _) ?_;go_simp
     go_big_quiet_on
     go_big_quiet_want
     refine ztw 176 _ _ _ rfl _ _ rfl rfl (by kernel_rfl) (neq_edge (h i)) ?_;go_simp
     go_big_quiet_on
     refine wpQuiet_nil ?_;intro _ hw';obtain⟨nq,rfl⟩:=hw';have HR2:=hid (HR.out.trans (nq.below.mono HR.out.size));clear C1 D1 R1 R2 bX bY c3;go_wp2;go_roundw
     case rel=>exact⟨i+1,by omega,by go_num,HR2⟩
     case measure=>simp [intOf];omega
    ·obtain rfl:i=x.en:=by omega
     have t0:decide ((x.en:Int) < (x.en:Int))=false:=by simp
     clear bX bY;go_wp2;clear c3 t0 hi HEX HEY
     go_loopw [7] (fun i_ wr=>∃ i:Nat,i≤x.mn∧i_=qI i∧Hid (Below W0.heap.size W0 wr)) (fun i_ _=>x.mn - (intOf i_).toNat)
     case atStart=>exact⟨0,by omega,rfl,HR⟩
     case round=>
      clear HR;obtain⟨i,hi,rfl,HR⟩:=hrel;have bX:=(HR.out.block _ (qLt HX.out)).trans HX.out;have bY:=(HR.out.block _ (qLt HY.out)).trans HY.out;have c2:=zaa bX 2;have HBR:=hid (HB.out.trans (HR.out.mono HB.out.size));by_cases hlt:i < x.mn
      ·have t0:decide ((i:Int) < (x.mn:Int))=true:=by simp;omega
       obtain⟨bm,om,ha1,ca0,ca1⟩:=(HXM.out.below HBR.out) i hlt;obtain⟨bn,on,ha2,cb0,cb1⟩:=(HYM.out.below HBR.out) i hlt;have HQA:=hid ((HXQ.out i hlt).below HBR.out);have HQB:=hid ((HYQ.out i hlt).below HBR.out);have hql:=HXN.out i hlt;unfold maxLen at hql;obtain⟨k1,k2⟩:=HK.out i hlt;rw [k1] at cb0;rw [k2] at cb1 HQB;have d2:=zaa bY 2;rw [ha1] at c2;rw [ha2] at d2;clear k1 k2 ha1 ha2;generalize (M i).t=ta at ca0 cb0;generalize (M i).qn=aqn at hql ca1 cb1 HQA HQB;generalize (M i).qo=aqo at ca1 HQA;generalize (M i).qc=aqc at ca1;generalize (K i).qo=bqo at cb1 HQB;generalize (K i).qc=bqc at cb1;have j0:(0:Int)≤(i:Int):=by omega
       have j1:(i:Int) < (x.mn:Int):=by omega
       go_upto_region 16 with fail
       go_cut [8,9] from 86 to 95 (fun pa_ pb_ wx=>zzc wr [qU ta,.slice aqo aqn aqc] [qU ta,.slice bqo aqn bqc] pa_ pb_ wx)
       case first=>
        refine zan [10,11,12,13] (fun X=>Below wr.heap.size wr X) (by kernel_rfl) (by kernel_rfl) (by exact⟨rfl,rfl,rfl,Nat.le_refl _,fun _ _=>rfl⟩) ?_;refine qFs fun K hK=>?_;go_simp;refine⟨_,fun _ _=>rfl,hK _ ?_⟩;clear hK K;refine qFs fun K hK=>?_;go_simp;refine⟨.slice (some ⟨bm,om,none⟩) x.mn x.mc,fun X hX=>?_,hK _ ?_⟩
        ·have z0:=kept c2 hX
         go_simp
        clear hK K;refine qFs fun K hK=>?_;go_simp;refine⟨_,fun _ _=>rfl,hK _ ?_⟩;clear hK K;refine qFs fun K hK=>?_;go_simp;refine⟨_,fun _ _=>rfl,hK _ ?_⟩;clear hK K;refine qFs fun K hK=>?_;go_simp;refine⟨.agg #[qU ta,.slice aqo aqn aqc],fun X hX=>?_,hK _ ?_⟩
        ·have z0:=kept ca0 hX
         have z1:=kept ca1 hX;go_simp
        clear hK K;refine qFs fun K hK=>?_;go_simp;refine⟨_,fun _ _=>rfl,hK _ ?_⟩;clear hK K;refine qFs fun K hK=>?_;go_simp;refine⟨.slice (some ⟨bn,on,none⟩) x.mn y.mc,fun X hX=>?_,hK _ ?_⟩
        ·have z0:=kept d2 hX
         go_simp
        clear hK K;refine qFs fun K hK=>?_;go_simp;refine⟨_,fun _ _=>rfl,hK _ ?_⟩;clear hK K;refine qFs fun K hK=>?_;go_simp;refine⟨_,fun _ _=>rfl,hK _ ?_⟩;clear hK K;refine qFs fun K hK=>?_;go_simp;refine⟨.agg #[qU ta,.slice bqo aqn bqc],fun X hX=>?_,hK _ ?_⟩
        ·have z0:=kept cb0 hX
         have z1:=kept cb1 hX;go_simp
        clear hK K
        repeat (refine qFc ?_)
        refine za9 ?_;refine qT2 10 11 [11,12,13] [10,12,13] (fun K hK=>?_) fun K hK=>?_
        ·go_wp2_with fail
         refine hK _ _ (zaw (qBr _)) ?_;clear hK K;refine qT1 11 [12,13] fun K hK=>?_
         go_wp2_with fail
         refine hK _ _ (zaw ((qBr _).alloc (by simp) _)) ?_;clear hK K;have g0:=zac (heap_alloc_new wr (qC #[qU 0,.slice none 0 0] 71)) (qC #[qU 0,.slice none 0 0] 71);have g1:=heap_alloc_new (wr.alloc (qC #[qU 0,.slice none 0 0] 71)) (qC #[qU 0,.slice none 0 0] 71);rw [World.size_alloc] at g1;have c00:=zaa g0 0;have c01:=zaa g0 1;have f00:=zab g0 0;have f01:=zab g0 1;have c10:=zaa g1 0;have c11:=zaa g1 1;have f10:=zab g1 0;have f11:=zab g1 1;refine qT1 12 [13] fun K hK=>?_
         go_wp2_with fail
         refine hK _ _ (zaw ((qBr _).alloc (by simp) _)) ?_;clear hK K;clear g0 g1 c00 c01 f00 f01 c10 c11 f10 f11;have g0:=zac (heap_alloc_new wr (qC #[qU ta,.slice aqo aqn aqc] 71)) (qC #[qU 0,.slice none 0 0] 71);have g1:=heap_alloc_new (wr.alloc (qC #[qU ta,.slice aqo aqn aqc] 71)) (qC #[qU 0,.slice none 0 0] 71);rw [World.size_alloc] at g1;have c00:=zaa g0 0;have c01:=zaa g0 1;have f00:=zab g0 0;have f01:=zab g0 1;have c10:=zaa g1 0;have c11:=zaa g1 1;have f10:=zab g1 0;have f11:=zab g1 1;refine qT1 13 [] fun K hK=>?_
         go_wp2_with fail
         refine hK _ _ (zaw ((qBr _).alloc (by simp) _)) ?_;clear hK K;clear g0 g1 c00 c01 f00 f01 c10 c11 f10 f11;have g0:=zac (heap_alloc_new wr (qC #[qU ta,.slice aqo aqn aqc] 71)) (qC #[qU ta,.slice bqo aqn bqc] 71);have g1:=heap_alloc_new (wr.alloc (qC #[qU ta,.slice aqo aqn aqc] 71)) (qC #[qU ta,.slice bqo aqn bqc] 71);rw [World.size_alloc] at g1;have hbX:=zaw ((qBr (w:=wr) (qC #[qU ta,.slice aqo aqn aqc] 71)).alloc (by simp) (qC #[qU ta,.slice bqo aqn bqc] 71));refine za2 ?_;go_wp2;go_meet
         case rel=>exact⟨⟨_,_,rfl,rfl,g0,g1⟩,hbX⟩
        ·go_wp2_with fail
         refine hK _ _ (zaw (qBr _)) ?_;clear hK K;refine qT1 10 [12,13] fun K hK=>?_
         go_wp2_with fail
         refine hK _ _ (zaw ((qBr _).alloc (by simp) _)) ?_;clear hK K;have g0:=zac (heap_alloc_new wr (qC #[qU 0,.slice none 0 0] 71)) (qC #[qU 0,.slice none 0 0] 71);have g1:=heap_alloc_new (wr.alloc (qC #[qU 0,.slice none 0 0] 71)) (qC #[qU 0,.slice none 0 0] 71);rw [World.size_alloc] at g1;have c00:=zaa g0 0;have c01:=zaa g0 1;have f00:=zab g0 0;have f01:=zab g0 1;have c10:=zaa g1 0;have c11:=zaa g1 1;have f10:=zab g1 0;have f11:=zab g1 1;refine qT1 12 [13] fun K hK=>?_
         go_wp2_with fail
         refine hK _ _ (zaw ((qBr _).alloc (by simp) _)) ?_;clear hK K;clear g0 g1 c00 c01 f00 f01 c10 c11 f10 f11;have g0:=zac (heap_alloc_new wr (qC #[qU 0,.slice none 0 0] 71)) (qC #[qU ta,.slice aqo aqn aqc] 71);have g1:=heap_alloc_new (wr.alloc (qC #[qU 0,.slice none 0 0] 71)) (qC #[qU ta,.slice aqo aqn aqc] 71);rw [World.size_alloc] at g1;have c00:=zaa g0 0;have c01:=zaa g0 1;have f00:=zab g0 0;have f01:=zab g0 1;have c10:=zaa g1 0;have c11:=zaa g1 1;have f10:=zab g1 0;have f11:=zab g1 1;refine qT1 13 [] fun K hK=>?_
         go_wp2_with fail
         refine hK _ _ (zaw ((qBr _).alloc (by simp) _)) ?_;clear hK K;clear g0 g1 c00 c01 f00 f01 c10 c11 f10 f11;have g0:=zac (heap_alloc_new wr (qC #[qU ta,.slice bqo aqn bqc] 71)) (qC #[qU ta,.slice aqo aqn aqc] 71);have g1:=heap_alloc_new (wr.alloc (qC #[qU ta,.slice bqo aqn bqc] 71)) (qC #[qU ta,.slice aqo aqn aqc] 71);rw [World.size_alloc] at g1;have hbX:=zaw ((qBr (w:=wr) (qC #[qU ta,.slice bqo aqn bqc] 71)).alloc (by simp) (qC #[qU ta,.slice aqo aqn aqc] 71));refine za2 ?_;go_wp2;go_meet
         case rel=>exact⟨⟨_,_,rfl,rfl,g1,g0⟩,hbX⟩
       case rest=>
        obtain⟨⟨ba,bb,rfl,rfl,bA4,bB4⟩,hb4⟩:=hcut;have HA4:=hid bA4;have HB5:=hid bB4;have HR4:=hid (HR.out.trans (hb4.mono HR.out.size));have HQA4:=hid (HQA.out.below hb4);have HQB4:=hid (HQB.out.below hb4);have a0:=zaa bA4 0;have a1:=zaa bA4 1;have b0:=zaa bB4 0;have b1:=zaa bB4 1;clear bA4 bB4 hb4 HQA HQB ca0 ca1 cb0 cb1 c2 d2 bX bY HR HBR;obtain⟨W4,hW4⟩:∃ X,X=wc:=⟨_,rfl⟩;rw [←hW4] at HA4 HB5 HR4 HQA4 HQB4 a0 a1 b0 b1 ⊢;clear hW4;go_wp2;clear a0 a1 b0 b1
        go_loopw [10] (fun i_ wr=>∃ k:Nat,k≤aqn∧i_=qI k∧Hid (Below W4.heap.size W4 wr)) (fun i_ _=>aqn - (intOf i_).toNat)
        case atStart=>exact⟨0,by omega,rfl,hid (.refl _ _)⟩
        case round=>
         obtain⟨k,hk,rfl,HRk⟩:=hrel;have bA:=(HRk.out.block _ (qLt HA4.out)).trans HA4.out;have bB:=(HRk.out.block _ (qLt HB5.out)).trans HB5.out;have a1:=zaa bA 1;by_cases hlk:k < aqn
         ·have t1:decide ((k:Int) < (aqn:Int))=true:=by simp;omega
          obtain⟨b1,o1,hq1,h1⟩:=(HQA4.out.below HRk.out) k hlk;obtain⟨b2,o2,hq2,h2⟩:=(HQB4.out.below HRk.out) k hlk;have e0:=h1 0 (by decide);have e1:=h1 1 (by decide);have f0:=h2 0 (by decide);have f1:=h2 1 (by decide);rw [Nat.add_zero] at e0 f0;rw [hq1] at bA a1;rw [hq2] at bB;have k0':(0:Int)≤(k:Int):=by omega
          have k1:(k:Int) < (aqn:Int):=by omega
          generalize q i k 0=u at e0 f0;generalize q i k 1=v at e1 f1;have E0:=Cls.cell e0;have E1:=Cls.cell e1;have F0:=Cls.cell f0;have F1:=Cls.cell f1;have A1:=Cls.cell (zaa bA 1);have B1:=Cls.cell (zaa bB 1);clear h1 h2 hq1 hq2 e0 e1 f0 f1
          go_upto_region 22 with fail
          refine zag (by kernel_rfl) (by kernel_rfl) ?_
          repeat (go_big_quiet_step (fail))
          refine wpQuiet_nil ?_;intro _ hw';obtain⟨nq,rfl⟩:=hw';have HR2:=hid (HRk.out.trans (nq.below.mono HRk.out.size));clear E0 E1 F0 F1 A1 B1 bA bB a1;go_wp2;go_roundw
          case rel=>exact⟨k+1,by omega,by go_num,HR2⟩
          case measure=>simp [intOf];omega
         ·obtain rfl:k=aqn:=by omega
          have t1:decide ((k:Int) < (k:Int))=false:=by simp
          have HR5:=hid (HR4.out.trans (HRk.out.mono HR4.out.size));clear bA bB;go_wp2;go_roundw
          case rel=>exact⟨i+1,by omega,by go_num,HR5⟩
          case measure=>simp [intOf];omega
      ·obtain rfl:i=x.mn:=by omega
       have t0:decide ((x.mn:Int) < (x.mn:Int))=false:=by simp
       clear bX bY;go_wp2;go_ret;exact⟨rfl,HBR.out⟩
end Go.Proofs.YtpbmmoneeoijaaaGreatDoor
namespace Go.Proofs.YtpbmmoneeoijaaaGreatDoor
open Go.RowKit Go.Deep Go.Shelf
set_option maxRecDepth 100000
set_option maxHeartbeats 8000000
theorem zA0 (x:Nat→Int) (res:Int) (w:World):Calls Tryz.prog 141 #[tv x,qI res] w fun e w'=>∃ r:Bool,e=.returned (.bool r)∧(r=true→VT x res)∧Below w.heap.size w w':=by
 unfold tv;have hb1:=qBr (w:=w) (zaj x);have hblk:=heap_alloc_new w (zaj x);unfold zaj at hb1 hblk
 cases h1:inR (x 0) 1 4096
 ·go_enter Tryz.func141,Tryz.ntmps141
  go_wp2_with (go_at_call 140;refine (zal _ _ _ _).mono ?_;rintro e w' ⟨rfl,rfl⟩)
  go_ret;exact⟨false,rfl,by simp,hb1⟩
 ·cases h2:inR (x 1) 1 (x 0)
  ·go_enter Tryz.func141,Tryz.ntmps141
   go_wp2_with (go_at_call 140;refine (zal _ _ _ _).mono ?_;rintro e w' ⟨rfl,rfl⟩)
   go_ret;exact⟨false,rfl,by simp,hb1⟩
  ·cases h3:inR (x 2) 1 (x 1)
   ·go_enter Tryz.func141,Tryz.ntmps141
    go_wp2_with (go_at_call 140;refine (zal _ _ _ _).mono ?_;rintro e w' ⟨rfl,rfl⟩)
    go_ret;exact⟨false,rfl,by simp,hb1⟩
   ·go_enter Tryz.func141,Tryz.ntmps141
    go_wp2_with (go_at_call 140;refine (zal _ _ _ _).mono ?_;rintro e w' ⟨rfl,rfl⟩)
    have y1:=zb7 h1;have y2:=zb7 h2;have y3:=zb7 h3;obtain⟨W0,hW0⟩:∃ W,W=(w.alloc (qC (qF11 x) 165)):=⟨_,rfl⟩;rw [←hW0] at hb1 hblk ⊢;have HB:=hid hb1;have HK:=hid hblk;have HA0:Hid (∀ k:Nat,k < 0→0≤x (3+k)∧x (3+k)≤x 2∧(res≤(k:Int)→x (3+k)=0)):=fun k hk=>absurd hk (by omega);have HY:=hid (show 0≤x 2 by omega);have HO:=hid (show (∀ k:Nat,k < 8→0≤x (3+k)∧x (3+k)≤x 2∧(res≤(k:Int)→x (3+k)=0))→VT x res from fun h=>⟨⟨y1.1,y1.2,y2.1,y2.2,y3.1,y3.2,fun k hk=>⟨(h k hk).1,(h k hk).2.1⟩⟩,fun k hk=>(h k hk).2.2⟩);clear hW0 hb1 hblk h1 h2 h3 y1 y2 y3
    go_loopw [5] (fun i_ wr=>∃ i:Nat,i≤8∧i_=qI i∧Hid (∀ k:Nat,k < i→0≤x (3+k)∧x (3+k)≤x 2∧(res≤(k:Int)→x (3+k)=0))∧W0=wr) (fun i_ _=>8 - (intOf i_).toNat)
    case atStart=>exact⟨0,by omega,rfl,HA0,rfl⟩
    case round=>
     clear HA0;obtain⟨i,hi,rfl,HA,rfl⟩:=hrel;have c2:=zaa HK.out 2;by_cases hlt:i < 8
     ·have t0:decide ((i:Int) < 8)=true:=by simp;omega
      have ci:W0.cell? ⟨w.heap.size,3+i,none⟩=some (qI (x (3+i))):=by
       rw [zaa HK.out];rcases i with _|_|_|_|_|_|_|_|i
       all_goals first|rfl|omega
      have i0':(0:Int)≤(i:Int):=by omega
      have i1:(i:Int) < 8:=by omega
      have HA2:Hid (0≤x (3+i)∧x (3+i)≤x 2∧(res≤(i:Int)→x (3+i)=0)→∀ k:Nat,k < i+1→0≤x (3+k)∧x (3+k)≤x 2∧(res≤(k:Int)→x (3+k)=0)):=fun h k hk=>by
       rcases (show k < i∨k=i by omega) with h1|rfl
       ·exact HA.out k h1
       ·exact h
      generalize x (3+i)=l at ci HA2;by_cases hr:res≤(i:Int)
      ·have t1:decide (res≤(i:Int))=true:=by simp [hr]
       cases h4:inR l 0 0
       ·go_wp2_with (go_at_call 140;refine (zal _ _ _ _).mono ?_;rintro e w' ⟨rfl,rfl⟩)
        go_ret;exact⟨false,rfl,by simp,HB.out⟩
       ·have hy:=zb7 h4
        have HA3:=hid (HA2.out ⟨by omega,by have:=HY.out;omega,fun _=>by omega⟩);clear hy
        go_wp2_with (go_at_call 140;refine (zal _ _ _ _).mono ?_;rintro e w' ⟨rfl,rfl⟩)
        go_roundw
        case rel=>exact⟨i+1,by omega,by go_num,HA3,trivial⟩
        case measure=>simp [intOf];omega
      ·have t1:decide (res≤(i:Int))=false:=by simp;omega
       cases h4:inR l 0 (x 2)
       ·go_wp2_with (go_at_call 140;refine (zal _ _ _ _).mono ?_;rintro e w' ⟨rfl,rfl⟩)
        go_ret;exact⟨false,rfl,by simp,HB.out⟩
       ·have hy:=zb7 h4
        have HA3:=hid (HA2.out ⟨by omega,by omega,fun h=>absurd h hr⟩);clear hy
        go_wp2_with (go_at_call 140;refine (zal _ _ _ _).mono ?_;rintro e w' ⟨rfl,rfl⟩)
        go_roundw
        case rel=>exact⟨i+1,by omega,by go_num,HA3,trivial⟩
        case measure=>simp [intOf];omega
     ·obtain rfl:i=8:=by omega
      go_wp2;go_ret;exact⟨true,rfl,fun _=>HO.out HA.out,HB.out⟩
theorem ztx (qo:Option Addr) (qn qc:Nat) (q:Nat→Nat→Int) (w:World) (hF:zb9 w qo qn 2 q) (hm:qn≤maxLen):Calls Tryz.prog 142 #[.slice qo qn qc] w fun e w'=>∃ r:Bool,e=.returned (.bool r)∧(r=true→qn≤4∧∀ j,j < qn→OkQ (q j))∧w=w':=by
 unfold maxLen at hm;have HF:=hid hF;clear hF;go_enter Tryz.func142,Tryz.ntmps142;go_wp2
 go_loopw [3] (fun i_ wr=>∃ i:Nat,i≤qn∧i_=qI i∧Hid (∀ j,j < i→j < 4∧OkQ (q j))∧w=wr) (fun i_ _=>qn - (intOf i_).toNat)
 case atStart=>exact⟨0,by omega,rfl,fun j hj=>absurd hj (by omega),rfl⟩
 case round=>
  obtain⟨i,hi,rfl,HA,rfl⟩:=hrel;by_cases hlt:i < qn
  ·have t0:decide ((i:Int) < (qn:Int))=true:=by simp;omega
   obtain⟨b,o,rfl,hc⟩:=HF.out i hlt;have c0:=hc 0 (by omega);have c1:=hc 1 (by omega);rw [Nat.add_zero] at c0;have i0':(0:Int)≤(i:Int):=by omega
   have i1:(i:Int) < (qn:Int):=by omega
   clear hc;have HN:=hid fun (h4:i < 4) (c:inR (q i 0) 1 16=true) (d:inR (q i 1) 1 3=true)=>(fun j hj=>by
    rcases (show j < i∨j=i by omega) with h1|rfl
    ·exact HA.out j h1
    ·exact⟨h4,(zb7 c).1,(zb7 c).2,(zb7 d).1,(zb7 d).2⟩:∀ j,j < i+1→j < 4∧OkQ (q j))
   generalize q i 0=x at c0 HN;generalize q i 1=y at c1 HN;by_cases h4:4≤i
   ·have t1:decide ((4:Int)≤(i:Int))=true:=by simp;omega
    go_wp2_with (go_at_call 140;refine (zal _ _ _ _).mono ?_;rintro e w' ⟨rfl,rfl⟩)
    go_ret;exact⟨false,rfl,fun h=>(by cases h),rfl⟩
   ·have t1:decide ((4:Int)≤(i:Int))=false:=by simp;omega
    cases h5:inR x 1 16
    ·go_wp2_with (go_at_call 140;refine (zal _ _ _ _).mono ?_;rintro e w' ⟨rfl,rfl⟩)
     go_ret;exact⟨false,rfl,fun h=>(by cases h),rfl⟩
    ·cases h6:inR y 1 3
     ·go_wp2_with (go_at_call 140;refine (zal _ _ _ _).mono ?_;rintro e w' ⟨rfl,rfl⟩)
      go_ret;exact⟨false,rfl,fun h=>(by cases h),rfl⟩
     ·have HN2:=hid (HN.out (by omega) h5 h6)
      go_wp2_with (go_at_call 140;refine (zal _ _ _ _).mono ?_;rintro e w' ⟨rfl,rfl⟩)
      go_roundw
      case rel=>exact⟨i+1,by omega,by go_num,HN2,trivial⟩
      case measure=>simp [intOf];omega
  ·obtain rfl:i=qn:=by omega
   have t0:decide ((i:Int) < (i:Int))=false:=by simp
   go_wp2;go_ret;exact⟨true,rfl,fun _=>⟨by
    rcases Nat.eq_zero_or_pos i with h|h
    ·omega
    ·have:=(HA.out (i - 1) (by omega)).1;omega,fun j hj=>(HA.out j hj).2⟩,rfl⟩
attribute [local go_sem] zaq
theorem zEt {z i:Nat} (hi:i < 16) (hz:z+1=2 ^ i):(z+2 ^ i % 4294967296) % 4294967296+1=2 ^ (i+1):=by
 have h1:=Nat.pow_le_pow_right (n:=2) (by decide) (show i≤15 by omega);have h2:2 ^ (i+1)=2 * 2 ^ i:=by rw [Nat.pow_succ];omega
 generalize 2 ^ i=p at *;omega
theorem orz_lt {t z n:Nat} (hz:z+1=2 ^ n) (h:t |||z=z):t < 2 ^ n:=by
 have:t≤t |||z:=Nat.left_le_or
 omega
theorem zw9 (x:Img) (g:Nat→Nat→Int) (M:Nat→zas) (q:Nat→Nat→Nat→Int) (h:Nat→Nat→Int) (w:World) (hx:zdr w x g M q h):
  Calls Tryz.prog 69 #[iv x] w fun E w'=>∃ a e:Int,E=.returned (.tuple #[qI a,qI e])∧(e=0→VX x g M q h)∧Below w.heap.size w w':=by
 have hmn:=hx.mn;have hen:=hx.en;have hn:=hx.n;have HX:=hid hx;have HE:=hid fun (i:Nat) (W:World) (hW:Below w.heap.size w W) (hi:i < x.en)=>zCc x g M q h i W (hx.below hW) hi;have HVE:=hid fun (i:Nat) (e:E10 x.mn M h i)=>VE.of10 hx.tb e;have HR:=hid (show (0≤x.r∧x.r≤8)→(1≤(x.n:Int)∧(x.n:Int)≤16)→(∀ i,i < x.n→VT (g i) x.r)→(1≤(x.mn:Int)∧(x.mn:Int)≤8)→(∀ i,i < x.mn→(M i).t < 2 ^ x.n∧(M i).qn≤4∧∀ j,j < (M i).qn→OkQ (q i j))→x.en≤24→(∀ i,i < x.en→VE x M h i)→VX x g M q h from
  fun h1 h2 h3 h4 h5 h6 h7=>⟨⟨h1.1,h1.2,by omega,by omega,fun i hi=>(h3 i hi).o,by omega,by omega,fun i hi=>(h5 i hi).1,fun i hi=>(h5 i hi).2,h6,fun i hi=>(h7 i hi).o⟩,h3,h7⟩)
 have HT:=hid hx.tasks;have HM:=hid hx.modes;have HQ:=hid fun i (hi:i < x.mn)=>And.intro (hx.queues i hi) (hx.qn i hi);have HTB:=hid hx.tb;clear hx HX;obtain⟨r,ao,n,cap,mo,mn,mc,eo,en,ec⟩:=x;unfold iv at HE ⊢;dsimp only at hmn hen hn HE HVE HR HT HM HQ HTB ⊢;unfold maxLen at hmn hen hn;have hb1:Below w.heap.size w (w.alloc (qC #[qI r,.slice ao n cap,.slice mo mn mc,.slice eo en ec] 26)):=qBr _;have bI:=heap_alloc_new w (qC #[qI r,.slice ao n cap,.slice mo mn mc,.slice eo en ec] 26);have c0:=zaa bI 0;have c1:=zaa bI 1
 cases a1:inR r 0 8
 ·go_enter Tryz.func69,Tryz.ntmps69
  go_wp2_with (go_at_call 140;refine (zal _ _ _ _).mono ?_;rintro e w' ⟨rfl,rfl⟩)
  go_ret2;exact⟨_,_,rfl,fun h=>by omega,hb1⟩
 cases a2:inR n 1 16
 ·go_enter Tryz.func69,Tryz.ntmps69
  go_wp2_with (go_at_call 140;refine (zal _ _ _ _).mono ?_;rintro e w' ⟨rfl,rfl⟩)
  go_ret2;exact⟨_,_,rfl,fun h=>by omega,hb1⟩
 have y1:=zb7 a1;have y2:=zb7 a2;have HR2:=hid (HR.out y1 y2);have hn16:n≤16:=by omega
 go_enter Tryz.func69,Tryz.ntmps69
 go_wp2_with (go_at_call 140;refine (zal _ _ _ _).mono ?_;rintro e w' ⟨rfl,rfl⟩)
 obtain⟨W1,hW1⟩:∃ X,X=w.alloc (qC #[qI r,.slice ao n cap,.slice mo mn mc,.slice eo en ec] 26):=⟨_,rfl⟩;rw [←hW1] at hb1 bI ⊢;have HB1:=hid hb1;have HI:=hid bI;clear hW1 c0 c1 a1 a2 y1 y2 HR hb1 bI;have HA0:Hid (∀ k,k < 0→VT (g k) r):=fun k hk=>by omega
 go_loopw [4,5] (fun z_ i_ wr=>∃ (z i:Nat),i≤n∧z+1=2 ^ i∧z_=qU z∧i_=qI i∧Hid (∀ k,k < i→VT (g k) r)∧Below W1.heap.size W1 wr) (fun _ i_ _=>n - (intOf i_).toNat)
 case atStart=>exact⟨0,0,by omega,rfl,rfl,rfl,HA0,Below.refl _ _⟩
 case round=>
  clear HA0;obtain⟨z,i,hi,hz,rfl,rfl,HA,hbr⟩:=hrel;have bI:=qBa hbr HI.out;have c0:=zaa bI 0;have c1:=zaa bI 1;by_cases hlt:i < n
  ·have t0:decide ((i:Int) < (n:Int))=true:=by simp;omega
   have hTW:=(HT.out.below HB1.out).below hbr;obtain⟨b,o,rfl,_⟩:=HT.out i hlt;obtain⟨⟨p0,p1,p2,p3⟩,⟨p4,p5,p6,p7⟩,p8,p9,p10⟩:=hTW.at_ hlt;have i0':(0:Int)≤(i:Int):=by omega
   have i1:(i:Int) < (n:Int):=by omega
   have HA2:Hid (VT (g i) r→∀ k,k < i+1→VT (g k) r):=fun h k hk=>by
    rcases (show k < i∨k=i by omega) with h1|rfl
    ·exact HA.out k h1
    ·exact h
   have HTA:=hid fun X=>zA0 (g i) r X;go_wp2;refine ze0 [7,8] (fun X=>Below wr.heap.size wr X) (by kernel_rfl) (by kernel_rfl) (by exact⟨rfl,rfl,rfl,Nat.le_refl _,fun _ _=>rfl⟩) ?_;refine qFs fun K hK=>?_;go_simp;refine⟨_,fun _ _=>rfl,hK _ ?_⟩;clear hK K;refine qFs fun K hK=>?_;go_simp;refine⟨.slice (some ⟨b,o,none⟩) n cap,fun X hX=>?_,hK _ ?_⟩
   ·have z0:=kept c1 hX
    go_simp
   clear hK K;refine qFs fun K hK=>?_;go_simp;refine⟨_,fun _ _=>rfl,hK _ ?_⟩;clear hK K;refine qFs fun K hK=>?_;go_simp;refine⟨_,fun _ _=>rfl,hK _ ?_⟩;clear hK K;refine qFs fun K hK=>?_;go_simp;refine⟨tv (g i),fun X hX=>?_,hK _ ?_⟩
   ·have z0:=kept p0 hX
    have z1:=kept p1 hX;have z2:=kept p2 hX;have z3:=kept p3 hX;have z4:=kept p4 hX;have z5:=kept p5 hX;have z6:=kept p6 hX;have z7:=kept p7 hX;have z8:=kept p8 hX;have z9:=kept p9 hX;have z10:=kept p10 hX;go_simp
   clear hK K;refine qFs fun K hK=>?_;go_simp;refine⟨_,fun _ _=>rfl,hK _ ?_⟩;clear hK K;refine qFs fun K hK=>?_;go_simp;refine⟨qI r,fun X hX=>?_,hK _ ?_⟩
   ·have z0:=kept c0 hX
    go_simp
   clear hK K
   repeat (refine qFc ?_)
   refine za9 ?_;refine zeg (by rfl) (fun K hK=>?_)
   go_wp2_with fail
   refine (HTA.out _).mono ?_;rintro e w2 ⟨rr,rfl,hok,hb2⟩
   go_wp2_with fail
   have hb2':Below wr.heap.size wr w2:=⟨hb2.os,hb2.tape,hb2.output,hb2.size,hb2.block⟩;refine hK _ _ hb2' ?_;clear hK K;refine zeg (by rfl) (fun K hK=>?_)
   go_wp2_with fail
   refine hK _ _ hb2' ?_;clear hK K;refine zrk ?_;have hbX:=hbr.trans (hb2'.mono hbr.size);clear p0 p1 p2 p3 p4 p5 p6 p7 p8 p9 p10;cases rr
   ·go_wp2
    go_ret2;exact⟨_,_,rfl,fun h=>by omega,HB1.out.trans (hbX.mono HB1.out.size)⟩
   ·have HA3:=hid (HA2.out (hok rfl))
    clear hok;go_wp2;go_roundw
    case rel=>exact⟨(z+2 ^ i % 4294967296) % 4294967296,i+1,by omega,zEt (by omega) hz,by go_num,by go_num,HA3,hbX⟩
    case measure=>simp [intOf];omega
  ·obtain rfl:i=n:=by omega
   have t0:decide ((i:Int) < (i:Int))=false:=by simp
   have c2:=zaa bI 2;have HR3:=hid (HR2.out HA.out);have HZ:=hid hz;clear HR2 HA
   cases a3:inR mn 1 8
   ·go_wp2_with (go_at_call 140;refine (zal _ _ _ _).mono ?_;rintro e w' ⟨rfl,rfl⟩)
    go_ret2;exact⟨_,_,rfl,fun h=>by omega,HB1.out.trans (hbr.mono HB1.out.size)⟩
   have HR4:=hid (HR3.out (zb7 a3));clear hz
   go_wp2_with (go_at_call 140;refine (zal _ _ _ _).mono ?_;rintro e w' ⟨rfl,rfl⟩)
   obtain⟨W2,hW2⟩:∃ X,X=wr:=⟨_,rfl⟩;rw [←hW2] at hbr bI ⊢;have HBR:=hid (HB1.out.trans (hbr.mono HB1.out.size));have HI2:=hid bI;clear hbr bI c0 c1 c2 hW2 a3 HI HB1 HT
   go_loopw [6] (fun k_ wr=>∃ k:Nat,k≤mn∧k_=qI k∧Hid (∀ j,j < k→(M j).t < 2 ^ i∧(M j).qn≤4∧∀ l,l < (M j).qn→OkQ (q j l))∧W2=wr) (fun k_ _=>mn - (intOf k_).toNat)
   case atStart=>exact⟨0,by omega,rfl,fun j hj=>absurd hj (by omega),rfl⟩
   case round=>
    obtain⟨k,hk,rfl,HMS,rfl⟩:=hrel;have c2:=zaa HI2.out 2;by_cases hlt:k < mn
    ·have t1:decide ((k:Int) < (mn:Int))=true:=by simp;omega
     obtain⟨b,o,rfl,d0,d1⟩:=(HM.out.below HBR.out) k hlt;have i0':(0:Int)≤(k:Int):=by omega
     have i1:(k:Int) < (mn:Int):=by omega
     have HQK:=hid fun qc=>ztx (M k).qo (M k).qn qc (q k) W2 ((HQ.out k hlt).1.below HBR.out) (HQ.out k hlt).2;have HTK:=hid (HTB.out k hlt);have HMN:=hid fun (c:(M k).t < 2 ^ i) (d:(M k).qn≤4∧∀ l,l < (M k).qn→OkQ (q k l))=>(fun j hj=>by
      rcases (show j < k∨j=k by omega) with h1|rfl
      ·exact HMS.out j h1
      ·exact⟨c,d⟩:∀ j,j < k+1→(M j).t < 2 ^ i∧(M j).qn≤4∧∀ l,l < (M j).qn→OkQ (q j l))
     generalize M k=A at d0 d1 HQK HTK HMN;obtain⟨ta,aqo,aqn,aqc⟩:=A;dsimp only at d0 d1 HQK HTK HMN;have hta:=HTK.out;clear HTK;have hz2:z < 4294967296:=by have:=HZ.out;have:=Nat.pow_le_pow_right (n:=2) (by decide) (show i≤16 by omega);omega
     have hor:=zoo hta hz2;clear hz2;by_cases hz3:ta |||z=z
     case neg=>
      have t2:(((ta |||z:Nat):Int) != (z:Int))=true:=by simp;omega
      go_wp2;go_ret2;exact⟨_,_,rfl,fun h=>by omega,HBR.out⟩
     have hlt2:=hid (orz_lt HZ.out hz3);rw [hz3] at hor;have t2:((z:Int) != (z:Int))=false:=by simp
     go_wp2_with (go_at_call 142;refine (HQK.out _).mono ?_;rintro e w' ⟨rr,rfl,hqq,rfl⟩)
     all_goals first
      |go_ret2
       exact⟨_,_,rfl,fun h=>by omega,HBR.out⟩
      |go_roundw
       case rel=>exact⟨k+1,by omega,by go_num,hid (HMN.out hlt2.out (hqq (by first|rfl|trivial|simp_all))),trivial⟩
       case measure=>simp [intOf];omega
    ·obtain rfl:k=mn:=by omega
     have t1:decide ((k:Int) < (k:Int))=false:=by simp
     have c3:=zaa HI2.out 3;by_cases hen24:en≤24
     ·have t2:decide ((24:Int) < (en:Int))=false:=by simp;omega
      have HR5:=hid (HR4.out HMS.out hen24);go_wp2;clear c2 c3 hk hlt t1
      go_loopw [7] (fun k_ wr=>∃ l:Nat,l≤en∧k_=qI l∧Hid (∀ j,j < l→VE ⟨r,ao,i,cap,mo,k,mc,eo,en,ec⟩ M h j)∧Below W2.heap.size W2 wr) (fun k_ _=>en - (intOf k_).toNat)
      case atStart=>exact⟨0,by omega,rfl,fun j hj=>absurd hj (by omega),Below.refl _ _⟩
      case round=>
       obtain⟨l,hl,rfl,HES,hbr⟩:=hrel;have bI:=qBa hbr HI2.out;have c0:=zaa bI 0;have c1:=zaa bI 1;have c2:=zaa bI 2;have c3:=zaa bI 3;have HBX:=hid (HBR.out.trans (hbr.mono HBR.out.size));by_cases hlt:l < en
       ·have t1:decide ((l:Int) < (en:Int))=true:=by simp;omega
        have HEl:=hid (HE.out l wr HBX.out hlt)
        go_wp2_with (go_at_call 143;refine HEl.out.mono ?_;rintro e w2 ⟨rr,rfl,hee,hb2⟩)
        all_goals first
         |go_ret2
          exact⟨_,_,rfl,fun h=>by omega,HBX.out.trans (hb2.mono HBX.out.size)⟩
         |go_roundw
          case rel=>
           refine⟨l+1,by omega,by go_num,fun j hj=>?_,hbr.trans (hb2.mono hbr.size)⟩;rcases (show j < l∨j=l by omega) with h1|rfl
           ·exact HES.out j h1
           ·exact HVE.out _ (hee (by first|rfl|trivial|simp_all))
          case measure=>simp [intOf];omega
       ·obtain rfl:l=en:=by omega
        have t1:decide ((l:Int) < (l:Int))=false:=by simp
        go_wp2;go_ret2;exact⟨_,_,rfl,fun _=>HR5.out HES.out,HBX.out⟩
     ·have t2:decide ((24:Int) < (en:Int))=true:=by simp;omega
      go_wp2;go_ret2;exact⟨_,_,rfl,fun h=>by omega,HBR.out⟩
theorem zvp (x:Img) (g:Nat→Nat→Int) (M:Nat→zas) (q:Nat→Nat→Nat→Int) (h:Nat→Nat→Int) (w:World) (hx:zdr w x g M q h):
  Calls Tryz.prog 27 #[iv x] w fun E w'=>∃ rr:Bool,E=.returned (.bool rr)∧(rr=true→VX x g M q h)∧Below w.heap.size w w':=by
 have HC:=hid fun X (hX:Below w.heap.size w X)=>zw9 x g M q h X (hx.below hX);clear hx;obtain⟨r,ao,n,cap,mo,mn,mc,eo,en,ec⟩:=x;unfold iv at HC ⊢;dsimp only at HC ⊢;have hb1:Below w.heap.size w (w.alloc (qC #[qI r,.slice ao n cap,.slice mo mn mc,.slice eo en ec] 26)):=qBr _;have bI:=heap_alloc_new w (qC #[qI r,.slice ao n cap,.slice mo mn mc,.slice eo en ec] 26);have c0:=zaa bI 0;have c1:=zaa bI 1;have c2:=zaa bI 2;have c3:=zaa bI 3;go_enter Tryz.func27,Tryz.ntmps27
 go_wp2_with (go_at_call 69;refine (HC.out _ hb1).mono ?_;rintro e w2 ⟨a,e',rfl,hf,hb2⟩)
 go_ret;exact⟨_,rfl,fun h=>hf (by simpa using h),hb1.trans (hb2.mono hb1.size)⟩
end Go.Proofs.YtpbmmoneeoijaaaGreatDoor
