import Derived.Test.YtnlaiahcemckkaaGreatDoorHPEx
import Derived.Test.YtnlaiahcemckkaaGreatDoorHAwK
open Prod (fst)
open Int (tdiv tmod)
set_option maxHeartbeats 4000000
set_option maxRecDepth 100000
set_option linter.unusedVariables false
set_option linter.unusedSimpArgs false
namespace Go.Proofs.YtnlaiahcemckkaaGreatDoor.Av
noncomputable section
open Go Go.Proofs
def HM (c_0:GB):Nat→HT (Nat⊕(Bool⊕Unit)) True
 | k3=>.run (cs 4 [oa]) (fun _=>He) <|
  .sp ((↑k3:Int)<(↑c_0.Tariffs.length:Int))
  (.run [bt] (fun γ=>Gb (dT γ.2)) <|
  .bd (c_0.Tariffs[k3]?) fun x58=>.sp ((↑x58.Rates.length:Int)>(60:Int))
  (.run (cs 3 ((.op none (.i k3))::oc::(.op none (.v [.lst (fl Gz.enc x58.Rates) x58.Rates.length]))::oc::oa::oc::tc::(cs 8 [bt]))) (fun γ=>k2 (ir γ.1.2) (k2 (GC (f:=Gf.enc) (z:=3) (fun _=>rfl) γ.1.2) (k2 (GL (f:=Gf.enc) (z:=4) (j:=k3) (a:=3) (n:=1) (fun _=>rfl) γ.1.2 (by decide) rfl) (k2 (dT γ.2) (Gb (rfl:true=true)))))) <|
  .bd (Ml) fun r61=>.run [.ret none [] (.bool r61) [],oc] (fun γ=>Gb (Hr r61 γ.2)) <|
  .leaf (Sum.inr (Sum.inl r61)) [0])
  (.run (cs 3 ((.op none (.i k3))::oc::(.op none (.v [.lst (fl Gz.enc x58.Rates) x58.Rates.length]))::oc::oa::oc::oF::(cs 2 [.op none (.i k3),oc,.op none (.v [.lst (fl GV.enc x58.Bands) x58.Bands.length]),oc,oa,oc]))) (fun γ=>k2 (ir γ.1.2) (k2 (GC (f:=Gf.enc) (z:=3) (fun _=>rfl) γ.1.2) (k2 (GL (f:=Gf.enc) (z:=4) (j:=k3) (a:=3) (n:=1) (fun _=>rfl) γ.1.2 (by decide) rfl) (k2 (dF γ.2) (k2 (ir γ.1.2) (k2 (GC (f:=Gf.enc) (z:=3) (fun _=>rfl) γ.1.2) (Gb (GL (f:=Gf.enc) (z:=4) (j:=k3) (a:=2) (n:=1) (fun _=>rfl) γ.1.2 (by decide) rfl)))))))) <|
  .sp ((↑x58.Bands.length:Int)>(8:Int))
  (.run [bt] (fun γ=>Gb (dT γ.2)) <|
  .bd (Ml) fun r64=>.run [.ret none [] (.bool r64) [],oc] (fun γ=>Gb (Hr r64 γ.2)) <|
  .leaf (Sum.inr (Sum.inl r64)) [0])
  (.run [bf] (fun γ=>Gb (dF γ.2)) <|
  .gd (GP .i64 ((↑k3:Int)+1)) <| .run [oc,ow,oc] (fun γ=>Gb γ.2) <|
  .leaf (Sum.inl (k3+1)) [0])))
  (.run [bf] (fun γ=>Gb (dF γ.2)) <|
  .leaf (Sum.inr (Sum.inr (()))) [0])
def Hk (c_0:GB):Nat→Option (Nat⊕(Bool⊕Unit)):=fun s=>(HM c_0 s).den
def Mz (c_0:GB):Nat→PS:=fun s=>(132,[(1,.ptr 0 0),(3,jI (↑s:Int))],[(bT (GB.enc c_0) 59)])
def Mt:(Bool⊕Unit)→Hm:=fun q=>match q with | Sum.inl o=>.ret | Sum.inr (o)=>(.exit 0)
def My (c_0:GB):(Bool⊕Unit)→List (Nat×AV):=fun q=>match q with | Sum.inl o=>[(2,.bool o)] | Sum.inr (o)=>[(1,.ptr 0 0)]
def Mr (c_0:GB):(Bool⊕Unit)→List G6:=fun q=>match q with | Sum.inl o=>[(bT (GB.enc c_0) 59)] | Sum.inr (o)=>[(bT (GB.enc c_0) 59)]
theorem Ky (c_0:GB) {s:Nat} {r:Bool⊕Unit} (h:lp (Hk c_0) s=some r):GI Tryz.prog GT 1 (.loop (GO Tryz.prog 4 [1,1,0,1,0,0])) (Mz c_0 s).st (Mt r) (PS.st (132,My c_0 r,Mr c_0 r)):=
 GI.lp_ht 1 400 (Mz c_0) Mt (fun q=>(132,My c_0 q,Mr c_0 q)) (HM c_0) (by intro k3; kernel_rfl) h
def Kp (c_0:GB):HT Bool True:=.run (cs 2 []) (fun _=>He) <|
  .sp ((↑c_0.Top.Net.Points.length:Int)>(12:Int))
  (.run (cs 5 (oa::oc::tc::(cs 85 [bt]))) (fun γ=>k2 (dT γ.2) (Gb (rfl:true=true))) <|
  .bd (Ml) fun r2=>.run [.ret none [] (.bool r2) [],oc] (fun γ=>Gb (Hr r2 γ.2)) <|
  .leaf r2 [])
  (.sp ((↑c_0.Top.Net.Links.length:Int)>(20:Int))
  (.run (cs 5 (oa::oc::oF::(cs 4 (oa::(cs 2 (tc::(cs 77 [bt]))))))) (fun γ=>k2 (dF γ.1.2) (k2 (dT γ.2) (Gb (rfl:true=true)))) <|
  .bd (Ml) fun r5=>.run [.ret none [] (.bool r5) [],oc] (fun γ=>Gb (Hr r5 γ.2)) <|
  .leaf r5 [])
  (.sp ((↑c_0.Top.Systems.length:Int)>(6:Int))
  (.run (cs 5 (oa::oc::oF::(cs 4 (oa::(cs 2 (oF::(cs 3 (oa::(cs 2 (tc::(cs 70 [bt]))))))))))) (fun γ=>k2 (dF γ.1.1.2) (k2 (dF γ.1.2) (k2 (dT γ.2) (Gb (rfl:true=true))))) <|
  .bd (Ml) fun r8=>.run [.ret none [] (.bool r8) [],oc] (fun γ=>Gb (Hr r8 γ.2)) <|
  .leaf r8 [])
  (.sp ((↑c_0.Devices.length:Int)>(24:Int))
  (.run (cs 5 (oa::oc::oF::(cs 4 (oa::(cs 2 (oF::(cs 3 (oa::(cs 2 (oF::(cs 2 (oa::(cs 2 (tc::(cs 64 [bt]))))))))))))))) (fun γ=>k2 (dF γ.1.1.1.2) (k2 (dF γ.1.1.2) (k2 (dF γ.1.2) (k2 (dT γ.2) (Gb (rfl:true=true)))))) <|
  .bd (Ml) fun r11=>.run [.ret none [] (.bool r11) [],oc] (fun γ=>Gb (Hr r11 γ.2)) <|
  .leaf r11 [])
  (.sp ((↑c_0.Classes.length:Int)>(12:Int))
  (.run (cs 5 (oa::oc::oF::(cs 4 (oa::(cs 2 (oF::(cs 3 (oa::(cs 2 (oF::(cs 2 (oa::(cs 2 (oF::(cs 2 (oa::(cs 2 (tc::(cs 58 [bt]))))))))))))))))))) (fun γ=>k2 (dF γ.1.1.1.1.2) (k2 (dF γ.1.1.1.2) (k2 (dF γ.1.1.2) (k2 (dF γ.1.2) (k2 (dT γ.2) (Gb (rfl:true=true))))))) <|
  .bd (Ml) fun r14=>.run [.ret none [] (.bool r14) [],oc] (fun γ=>Gb (Hr r14 γ.2)) <|
  .leaf r14 [])
  (.sp ((↑c_0.Tags.length:Int)>(12:Int))
  (.run (cs 5 (oa::oc::oF::(cs 4 (oa::(cs 2 (oF::(cs 3 (oa::(cs 2 (oF::(cs 2 (oa::(cs 2 (oF::(cs 2 (oa::(cs 2 (oF::(cs 2 (oa::(cs 2 (tc::(cs 52 [bt]))))))))))))))))))))))) (fun γ=>k2 (dF γ.1.1.1.1.1.2) (k2 (dF γ.1.1.1.1.2) (k2 (dF γ.1.1.1.2) (k2 (dF γ.1.1.2) (k2 (dF γ.1.2) (k2 (dT γ.2) (Gb (rfl:true=true)))))))) <|
  .bd (Ml) fun r17=>.run [.ret none [] (.bool r17) [],oc] (fun γ=>Gb (Hr r17 γ.2)) <|
  .leaf r17 [])
  (.sp ((↑c_0.Tariffs.length:Int)>(4:Int))
  (.run (cs 5 (oa::oc::oF::(cs 4 (oa::(cs 2 (oF::(cs 3 (oa::(cs 2 (oF::(cs 2 (oa::(cs 2 (oF::(cs 2 (oa::(cs 2 (oF::(cs 2 (oa::(cs 2 (oF::(cs 2 (oa::(cs 2 (tc::(cs 46 [bt]))))))))))))))))))))))))))) (fun γ=>k2 (dF γ.1.1.1.1.1.1.2) (k2 (dF γ.1.1.1.1.1.2) (k2 (dF γ.1.1.1.1.2) (k2 (dF γ.1.1.1.2) (k2 (dF γ.1.1.2) (k2 (dF γ.1.2) (k2 (dT γ.2) (Gb (rfl:true=true))))))))) <|
  .bd (Ml) fun r20=>.run [.ret none [] (.bool r20) [],oc] (fun γ=>Gb (Hr r20 γ.2)) <|
  .leaf r20 [])
  (.sp ((↑c_0.Zones.length:Int)>(4:Int))
  (.run (cs 5 (oa::oc::oF::(cs 4 (oa::(cs 2 (oF::(cs 3 (oa::(cs 2 (oF::(cs 2 (oa::(cs 2 (oF::(cs 2 (oa::(cs 2 (oF::(cs 2 (oa::(cs 2 (oF::(cs 2 (oa::(cs 2 (oF::(cs 2 (oa::(cs 2 (tc::(cs 40 [bt]))))))))))))))))))))))))))))))) (fun γ=>k2 (dF γ.1.1.1.1.1.1.1.2) (k2 (dF γ.1.1.1.1.1.1.2) (k2 (dF γ.1.1.1.1.1.2) (k2 (dF γ.1.1.1.1.2) (k2 (dF γ.1.1.1.2) (k2 (dF γ.1.1.2) (k2 (dF γ.1.2) (k2 (dT γ.2) (Gb (rfl:true=true)))))))))) <|
  .bd (Ml) fun r23=>.run [.ret none [] (.bool r23) [],oc] (fun γ=>Gb (Hr r23 γ.2)) <|
  .leaf r23 [])
  (.sp ((↑c_0.Permits.length:Int)>(6:Int))
  (.run (cs 5 (oa::oc::oF::(cs 4 (oa::(cs 2 (oF::(cs 3 (oa::(cs 2 (oF::(cs 2 (oa::(cs 2 (oF::(cs 2 (oa::(cs 2 (oF::(cs 2 (oa::(cs 2 (oF::(cs 2 (oa::(cs 2 (oF::(cs 2 (oa::(cs 2 (oF::(cs 2 (oa::(cs 2 (tc::(cs 34 [bt]))))))))))))))))))))))))))))))))))) (fun γ=>k2 (dF γ.1.1.1.1.1.1.1.1.2) (k2 (dF γ.1.1.1.1.1.1.1.2) (k2 (dF γ.1.1.1.1.1.1.2) (k2 (dF γ.1.1.1.1.1.2) (k2 (dF γ.1.1.1.1.2) (k2 (dF γ.1.1.1.2) (k2 (dF γ.1.1.2) (k2 (dF γ.1.2) (k2 (dT γ.2) (Gb (rfl:true=true))))))))))) <|
  .bd (Ml) fun r26=>.run [.ret none [] (.bool r26) [],oc] (fun γ=>Gb (Hr r26 γ.2)) <|
  .leaf r26 [])
  (.sp ((↑c_0.Accounts.length:Int)>(6:Int))
  (.run (cs 5 (oa::oc::oF::(cs 4 (oa::(cs 2 (oF::(cs 3 (oa::(cs 2 (oF::(cs 2 (oa::(cs 2 (oF::(cs 2 (oa::(cs 2 (oF::(cs 2 (oa::(cs 2 (oF::(cs 2 (oa::(cs 2 (oF::(cs 2 (oa::(cs 2 (oF::(cs 2 (oa::(cs 2 (oF::(cs 2 (oa::(cs 2 (tc::(cs 28 [bt]))))))))))))))))))))))))))))))))))))))) (fun γ=>k2 (dF γ.1.1.1.1.1.1.1.1.1.2) (k2 (dF γ.1.1.1.1.1.1.1.1.2) (k2 (dF γ.1.1.1.1.1.1.1.2) (k2 (dF γ.1.1.1.1.1.1.2) (k2 (dF γ.1.1.1.1.1.2) (k2 (dF γ.1.1.1.1.2) (k2 (dF γ.1.1.1.2) (k2 (dF γ.1.1.2) (k2 (dF γ.1.2) (k2 (dT γ.2) (Gb (rfl:true=true)))))))))))) <|
  .bd (Ml) fun r29=>.run [.ret none [] (.bool r29) [],oc] (fun γ=>Gb (Hr r29 γ.2)) <|
  .leaf r29 [])
  (.sp ((↑c_0.Reliefs.length:Int)>(6:Int))
  (.run (cs 5 (oa::oc::oF::(cs 4 (oa::(cs 2 (oF::(cs 3 (oa::(cs 2 (oF::(cs 2 (oa::(cs 2 (oF::(cs 2 (oa::(cs 2 (oF::(cs 2 (oa::(cs 2 (oF::(cs 2 (oa::(cs 2 (oF::(cs 2 (oa::(cs 2 (oF::(cs 2 (oa::(cs 2 (oF::(cs 2 (oa::(cs 2 (oF::(cs 2 (oa::(cs 2 (tc::(cs 22 [bt]))))))))))))))))))))))))))))))))))))))))))) (fun γ=>k2 (dF γ.1.1.1.1.1.1.1.1.1.1.2) (k2 (dF γ.1.1.1.1.1.1.1.1.1.2) (k2 (dF γ.1.1.1.1.1.1.1.1.2) (k2 (dF γ.1.1.1.1.1.1.1.2) (k2 (dF γ.1.1.1.1.1.1.2) (k2 (dF γ.1.1.1.1.1.2) (k2 (dF γ.1.1.1.1.2) (k2 (dF γ.1.1.1.2) (k2 (dF γ.1.1.2) (k2 (dF γ.1.2) (k2 (dT γ.2) (Gb (rfl:true=true))))))))))))) <|
  .bd (Ml) fun r32=>.run [.ret none [] (.bool r32) [],oc] (fun γ=>Gb (Hr r32 γ.2)) <|
  .leaf r32 [])
  (.sp ((↑c_0.Holidays.length:Int)>(40:Int))
  (.run (cs 5 (oa::oc::oF::(cs 4 (oa::(cs 2 (oF::(cs 3 (oa::(cs 2 (oF::(cs 2 (oa::(cs 2 (oF::(cs 2 (oa::(cs 2 (oF::(cs 2 (oa::(cs 2 (oF::(cs 2 (oa::(cs 2 (oF::(cs 2 (oa::(cs 2 (oF::(cs 2 (oa::(cs 2 (oF::(cs 2 (oa::(cs 2 (oF::(cs 2 (oa::(cs 2 (oF::(cs 2 (oa::(cs 2 (tc::(cs 16 [bt]))))))))))))))))))))))))))))))))))))))))))))))) (fun γ=>k2 (dF γ.1.1.1.1.1.1.1.1.1.1.1.2) (k2 (dF γ.1.1.1.1.1.1.1.1.1.1.2) (k2 (dF γ.1.1.1.1.1.1.1.1.1.2) (k2 (dF γ.1.1.1.1.1.1.1.1.2) (k2 (dF γ.1.1.1.1.1.1.1.2) (k2 (dF γ.1.1.1.1.1.1.2) (k2 (dF γ.1.1.1.1.1.2) (k2 (dF γ.1.1.1.1.2) (k2 (dF γ.1.1.1.2) (k2 (dF γ.1.1.2) (k2 (dF γ.1.2) (k2 (dT γ.2) (Gb (rfl:true=true)))))))))))))) <|
  .bd (Ml) fun r35=>.run [.ret none [] (.bool r35) [],oc] (fun γ=>Gb (Hr r35 γ.2)) <|
  .leaf r35 [])
  (.sp ((↑c_0.Keeping.length:Int)>(12:Int))
  (.run (cs 5 (oa::oc::oF::(cs 4 (oa::(cs 2 (oF::(cs 3 (oa::(cs 2 (oF::(cs 2 (oa::(cs 2 (oF::(cs 2 (oa::(cs 2 (oF::(cs 2 (oa::(cs 2 (oF::(cs 2 (oa::(cs 2 (oF::(cs 2 (oa::(cs 2 (oF::(cs 2 (oa::(cs 2 (oF::(cs 2 (oa::(cs 2 (oF::(cs 2 (oa::(cs 2 (oF::(cs 2 (oa::(cs 2 (oF::(cs 2 (oa::(cs 2 (tc::(cs 10 [bt]))))))))))))))))))))))))))))))))))))))))))))))))))) (fun γ=>k2 (dF γ.1.1.1.1.1.1.1.1.1.1.1.1.2) (k2 (dF γ.1.1.1.1.1.1.1.1.1.1.1.2) (k2 (dF γ.1.1.1.1.1.1.1.1.1.1.2) (k2 (dF γ.1.1.1.1.1.1.1.1.1.2) (k2 (dF γ.1.1.1.1.1.1.1.1.2) (k2 (dF γ.1.1.1.1.1.1.1.2) (k2 (dF γ.1.1.1.1.1.1.2) (k2 (dF γ.1.1.1.1.1.2) (k2 (dF γ.1.1.1.1.2) (k2 (dF γ.1.1.1.2) (k2 (dF γ.1.1.2) (k2 (dF γ.1.2) (k2 (dT γ.2) (Gb (rfl:true=true))))))))))))))) <|
  .bd (Ml) fun r38=>.run [.ret none [] (.bool r38) [],oc] (fun γ=>Gb (Hr r38 γ.2)) <|
  .leaf r38 [])
  (.sp ((↑c_0.Discounts.length:Int)>(20:Int))
  (.run (cs 5 (oa::oc::oF::(cs 4 (oa::(cs 2 (oF::(cs 3 (oa::(cs 2 (oF::(cs 2 (oa::(cs 2 (oF::(cs 2 (oa::(cs 2 (oF::(cs 2 (oa::(cs 2 (oF::(cs 2 (oa::(cs 2 (oF::(cs 2 (oa::(cs 2 (oF::(cs 2 (oa::(cs 2 (oF::(cs 2 (oa::(cs 2 (oF::(cs 2 (oa::(cs 2 (oF::(cs 2 (oa::(cs 2 (oF::(cs 2 (oa::(cs 2 (oF::(cs 2 (oa::(cs 2 (tc::(cs 4 [bt]))))))))))))))))))))))))))))))))))))))))))))))))))))))) (fun γ=>k2 (dF γ.1.1.1.1.1.1.1.1.1.1.1.1.1.2) (k2 (dF γ.1.1.1.1.1.1.1.1.1.1.1.1.2) (k2 (dF γ.1.1.1.1.1.1.1.1.1.1.1.2) (k2 (dF γ.1.1.1.1.1.1.1.1.1.1.2) (k2 (dF γ.1.1.1.1.1.1.1.1.1.2) (k2 (dF γ.1.1.1.1.1.1.1.1.2) (k2 (dF γ.1.1.1.1.1.1.1.2) (k2 (dF γ.1.1.1.1.1.1.2) (k2 (dF γ.1.1.1.1.1.2) (k2 (dF γ.1.1.1.1.2) (k2 (dF γ.1.1.1.2) (k2 (dF γ.1.1.2) (k2 (dF γ.1.2) (k2 (dT γ.2) (Gb (rfl:true=true)))))))))))))))) <|
  .bd (Ml) fun r41=>.run [.ret none [] (.bool r41) [],oc] (fun γ=>Gb (Hr r41 γ.2)) <|
  .leaf r41 [])
  (.run (cs 5 (oa::oc::oF::(cs 4 (oa::(cs 2 (oF::(cs 3 (oa::(cs 2 (oF::(cs 2 (oa::(cs 2 (oF::(cs 2 (oa::(cs 2 (oF::(cs 2 (oa::(cs 2 (oF::(cs 2 (oa::(cs 2 (oF::(cs 2 (oa::(cs 2 (oF::(cs 2 (oa::(cs 2 (oF::(cs 2 (oa::(cs 2 (oF::(cs 2 (oa::(cs 2 (oF::(cs 2 (oa::(cs 2 (oF::(cs 2 (oa::(cs 2 (oF::(cs 2 (oa::(cs 2 (oF::(cs 2 [oa,oc]))))))))))))))))))))))))))))))))))))))))))))))))))))))) (fun γ=>k2 (dF γ.1.1.1.1.1.1.1.1.1.1.1.1.1.2) (k2 (dF γ.1.1.1.1.1.1.1.1.1.1.1.1.2) (k2 (dF γ.1.1.1.1.1.1.1.1.1.1.1.2) (k2 (dF γ.1.1.1.1.1.1.1.1.1.1.2) (k2 (dF γ.1.1.1.1.1.1.1.1.1.2) (k2 (dF γ.1.1.1.1.1.1.1.1.2) (k2 (dF γ.1.1.1.1.1.1.1.2) (k2 (dF γ.1.1.1.1.1.1.2) (k2 (dF γ.1.1.1.1.1.2) (k2 (dF γ.1.1.1.1.2) (k2 (dF γ.1.1.1.2) (k2 (dF γ.1.1.2) (k2 (dF γ.1.2) (Gb (dF γ.2))))))))))))))) <|
  .sp ((↑c_0.Caps.length:Int)>(20:Int))
  (.run [bt] (fun γ=>Gb (dT γ.2)) <|
  .bd (Ml) fun r44=>.run [.ret none [] (.bool r44) [],oc] (fun γ=>Gb (Hr r44 γ.2)) <|
  .leaf r44 [])
  (.run [bf,oc] (fun γ=>Gb (dF γ.2)) <|
  .bd (lp (Hk c_0) (0:Nat)) fun qq=>.cs qq (fun o46=>.run [.fcut 1 .ret [(2,.bool o46)] [(bT (GB.enc c_0) 59)] [0] [(1,.any),(3,jI (↑(0:Nat):Int))] [bS]] (fun γ=>k2 (rfl:(jI 0:AV)=jI (↑(0:Nat):Int)) (Gb (Ky c_0 (s:=(0:Nat)) (r:=Sum.inl o46) (eS γ.1.2 γ.2)))) <|
  .leaf o46 [])
  (fun o46=>.run [.fcut 1 (.exit 0) [(1,.ptr 0 0)] [(bT (GB.enc c_0) 59)] [0] [(1,.any),(3,jI (↑(0:Nat):Int))] [bS]] (fun γ=>k2 (rfl:(jI 0:AV)=jI (↑(0:Nat):Int)) (Gb (Ky c_0 (s:=(0:Nat)) (r:=Sum.inr (o46)) (eS γ.1.2 γ.2)))) <|
  .bd (GbE c_0) fun r67=>.bd (GjZ c_0) fun r69=>.sp (r67=r69)
  (.bd (Ml) fun r72=>.run [oc,.ret none [.any] (jI r67) [],oc,.ret none [.any] (jI r69) [],oa,oc,.ret (some true) [] (.bool r72) [],.op none (.b true),oc] (fun γ=>k2 (Gew c_0 r67 γ.1.1.1.2) (k2 (GjJ c_0 r69 γ.1.1.2) (k2 (Gp γ.1.2) (k2 (Hr r72 γ.2) (Gb (Gp γ.1.2)))))) <|
  .leaf r72 [])
  (.run [oc,.ret none [.any] (jI r67) [],oc,.ret none [.any] (jI r69) [],oa,oc,oF,.op none (.b false),oc] (fun γ=>k2 (Gew c_0 r67 γ.1.1.2) (k2 (GjJ c_0 r69 γ.1.2) (k2 (Gw γ.2) (Gb (Gw γ.2))))) <|
  .leaf false [])))))))))))))))))
def JC (c_0:GB):Option Bool:=(Kp c_0).den
theorem Ym (c_0:GB) (r:Bool) (h:JC c_0=some r):G5 Tryz.prog GT 4 [.agg (GB.enc c_0)] (.bool r) []:=
 G5.of_ht 400 (Kp c_0) (fun (r:Bool)=>.bool r) (fun (r:Bool)=>[]) (by kernel_rfl) h
end
set_option maxHeartbeats 4000000
noncomputable section
def GvX (_:Nat) (x:Gf):Option Bool:=if x.Rates.length>60∨x.Bands.length>8 then some true else none
theorem GkG (c:GB) (hd:∀ x ∈ c.Devices,Gua x) (hp:∀ p ∈ c.Permits,∀ x ∈ p.Plates,Ls x) (ha:∀ a ∈ c.Accounts,GpR a):JC c=some true:=by
 have aw:Ml=some true:=rfl
 have key:Sm c.Tariffs→lp (Hk c) 0=some (HL (GK GvX 0 c.Tariffs)):=fun hs=>by
  refine GQ (fun k x hx=>?_) ?_
  ·obtain ⟨hk,i1,i2,hkl,h1,h2⟩:=rd hs hx
   simp only [Hk,HM,d1,d2,d3,d4,d5,d6,d7,eN,eM,hx,aw,Option.bind_some,i1,if_true,hkl,GvX]
   by_cases g1:x.Rates.length>60
   ·rw [if_pos (by omega),if_pos (.inl g1)]; rfl
   by_cases g2:x.Bands.length>8
   ·rw [if_neg (by omega),if_pos (by omega),if_pos (.inr g2)]; rfl
   rw [if_neg (by omega),if_neg (by omega),if_neg (by omega)]; rfl
  ·simp only [Hk,HM,d3,d6,d1]
   rw [if_neg (by omega)]
 simp only [JC,Kp,d1,d2,d3,d4,d5,d6,d7,aw,Option.bind_some]
 by_cases h1:(c.Top.Net.Points.length:Int)>12
 ·rw [if_pos h1]
 rw [if_neg h1]
 by_cases h2:(c.Top.Net.Links.length:Int)>20
 ·rw [if_pos h2]
 rw [if_neg h2]
 by_cases h3:(c.Top.Systems.length:Int)>6
 ·rw [if_pos h3]
 rw [if_neg h3]
 by_cases h4:(c.Devices.length:Int)>24
 ·rw [if_pos h4]
 rw [if_neg h4]
 by_cases h5:(c.Classes.length:Int)>12
 ·rw [if_pos h5]
 rw [if_neg h5]
 by_cases h6:(c.Tags.length:Int)>12
 ·rw [if_pos h6]
 rw [if_neg h6]
 by_cases h7:(c.Tariffs.length:Int)>4
 ·rw [if_pos h7]
 rw [if_neg h7]
 by_cases h8:(c.Zones.length:Int)>4
 ·rw [if_pos h8]
 rw [if_neg h8]
 by_cases h9:(c.Permits.length:Int)>6
 ·rw [if_pos h9]
 rw [if_neg h9]
 by_cases h10:(c.Accounts.length:Int)>6
 ·rw [if_pos h10]
 rw [if_neg h10]
 by_cases h11:(c.Reliefs.length:Int)>6
 ·rw [if_pos h11]
 rw [if_neg h11]
 by_cases h12:(c.Holidays.length:Int)>40
 ·rw [if_pos h12]
 rw [if_neg h12]
 by_cases h13:(c.Keeping.length:Int)>12
 ·rw [if_pos h13]
 rw [if_neg h13]
 by_cases h14:(c.Discounts.length:Int)>20
 ·rw [if_pos h14]
 rw [if_neg h14]
 by_cases h15:(c.Caps.length:Int)>20
 ·rw [if_pos h15]
 rw [if_neg h15,key (by show _≤_; omega)]
 cases he:GK GvX 0 c.Tariffs with
 | some r=>
  obtain ⟨i,x,_,hg⟩:=Qa he
  simp only [HL,Option.bind_some,eN]
  unfold GvX at hg
  grind
 | none=>
  have hS:Gsh c:={ pts:=by show _≤_; omega,devs:=hd,classes:=by show _≤_; omega,caps:=by show _≤_; omega,zones:=by show _≤_; omega,permits:=by show _≤_; omega,plates:=hp,accs:=ha,hols:=by show _≤_; omega }
  simp only [HL,Option.bind_some,eM,Gm9 c hS,Gnl c hS,if_true]
end
set_option maxHeartbeats 4000000
set_option maxRecDepth 100000
noncomputable section
open Go Go.Proofs Go.ChangeShapes Go.WideShapes Go.ChangeAt Go.RowKit
def Gq.wf (x:Gq):Prop:=(JB x.Name)∧(GP .i64 x.Kind)∧(JB x.System)
theorem Gq.reads (n:Nat):GF Tryz.prog (n+2) 160 Gq.enc Gq.wf:=fun c h=>by
 have h:=G4 Tryz.underlying160 h
 obtain ⟨a0,b0,h0,g0,h⟩:=h
 obtain ⟨a1,b1,h1,g1,h⟩:=h
 obtain ⟨a2,b2,h2,g2,h⟩:=h
 have e:=h
 obtain ⟨x0,e0,w0⟩:=((Hb Tryz.underlying9):GF Tryz.prog (n+1) 9 (fun s:List UInt8=>[.str s]) JB) _ g0
 obtain ⟨x1,e1,w1⟩:=((GM Tryz.underlying3):GF Tryz.prog (n+1) 3 (fun z:Int=>[jI z]) (GP .i64)) _ g1
 obtain ⟨x2,e2,w2⟩:=((Hb Tryz.underlying9):GF Tryz.prog (n+1) 9 (fun s:List UInt8=>[.str s]) JB) _ g2
 simp only [Kr] at e
 subst e e0 e1 e2
 subst h2
 subst h1
 subst h0
 exact ⟨⟨x0,x1,x2⟩,rfl,w0,w1,w2⟩
def G1.wf (x:G1):Prop:=(JB x.From)∧(JB x.To)∧(GP .i64 x.Min)∧(GP .i64 x.Max)
theorem G1.reads (n:Nat):GF Tryz.prog (n+2) 304 G1.enc G1.wf:=fun c h=>by
 have h:=G4 Tryz.underlying304 h
 obtain ⟨a0,b0,h0,g0,h⟩:=h
 obtain ⟨a1,b1,h1,g1,h⟩:=h
 obtain ⟨a2,b2,h2,g2,h⟩:=h
 obtain ⟨a3,b3,h3,g3,h⟩:=h
 have e:=h
 obtain ⟨x0,e0,w0⟩:=((Hb Tryz.underlying9):GF Tryz.prog (n+1) 9 (fun s:List UInt8=>[.str s]) JB) _ g0
 obtain ⟨x1,e1,w1⟩:=((Hb Tryz.underlying9):GF Tryz.prog (n+1) 9 (fun s:List UInt8=>[.str s]) JB) _ g1
 obtain ⟨x2,e2,w2⟩:=((GM Tryz.underlying3):GF Tryz.prog (n+1) 3 (fun z:Int=>[jI z]) (GP .i64)) _ g2
 obtain ⟨x3,e3,w3⟩:=((GM Tryz.underlying3):GF Tryz.prog (n+1) 3 (fun z:Int=>[jI z]) (GP .i64)) _ g3
 simp only [Kr] at e
 subst e e0 e1 e2 e3
 subst h3
 subst h2
 subst h1
 subst h0
 exact ⟨⟨x0,x1,x2,x3⟩,rfl,w0,w1,w2,w3⟩
def Gc.wf (x:Gc):Prop:=(Jc 40 Gq.wf x.Points)∧(Jc 48 G1.wf x.Links)
theorem Gc.reads (n:Nat):GF Tryz.prog (n+4) 38 Gc.enc Gc.wf:=fun c h=>by
 have h:=G4 Tryz.underlying38 h
 obtain ⟨a0,b0,h0,g0,h⟩:=h
 obtain ⟨a1,b1,h1,g1,h⟩:=h
 have e:=h
 obtain ⟨x0,e0,w0⟩:=((G2 Tryz.underlying35 (by kernel_rfl) (Gq.reads _)):GF Tryz.prog (n+3) 35 (R3 Gq.enc) (Jc 40 Gq.wf)) _ g0
 obtain ⟨x1,e1,w1⟩:=((G2 Tryz.underlying36 (by kernel_rfl) (G1.reads _)):GF Tryz.prog (n+3) 36 (R3 G1.enc) (Jc 48 G1.wf)) _ g1
 simp only [Kr] at e
 subst e e0 e1
 subst h1
 subst h0
 exact ⟨⟨x0,x1⟩,rfl,w0,w1⟩
def Gi.wf (x:Gi):Prop:=(JB x.Name)∧True∧(GP .i64 x.Most)
theorem Gi.reads (n:Nat):GF Tryz.prog (n+2) 162 Gi.enc Gi.wf:=fun c h=>by
 have h:=G4 Tryz.underlying162 h
 obtain ⟨a0,b0,h0,g0,h⟩:=h
 obtain ⟨a1,b1,h1,g1,h⟩:=h
 obtain ⟨a2,b2,h2,g2,h⟩:=h
 have e:=h
 obtain ⟨x0,e0,w0⟩:=((Hb Tryz.underlying9):GF Tryz.prog (n+1) 9 (fun s:List UInt8=>[.str s]) JB) _ g0
 obtain ⟨x1,e1,w1⟩:=((Ge3 Tryz.underlying4):GF Tryz.prog (n+1) 4 (fun b:Bool=>[.bool b]) (fun _=>True)) _ g1
 obtain ⟨x2,e2,w2⟩:=((GM Tryz.underlying3):GF Tryz.prog (n+1) 3 (fun z:Int=>[jI z]) (GP .i64)) _ g2
 simp only [Kr] at e
 subst e e0 e1 e2
 subst h2
 subst h1
 subst h0
 exact ⟨⟨x0,x1,x2⟩,rfl,w0,w1,w2⟩
def Ga.wf (x:Ga):Prop:=(Gc.wf x.Net)∧(Jc 32 Gi.wf x.Systems)
theorem Ga.reads (n:Nat):GF Tryz.prog (n+5) 41 Ga.enc Ga.wf:=fun c h=>by
 have h:=G4 Tryz.underlying41 h
 obtain ⟨a0,b0,h0,g0,h⟩:=h
 obtain ⟨a1,b1,h1,g1,h⟩:=h
 have e:=h
 obtain ⟨x0,e0,w0⟩:=((Gc.reads _):GF Tryz.prog (n+4) 38 Gc.enc Gc.wf) _ g0
 obtain ⟨x1,e1,w1⟩:=((G2 Tryz.underlying39 (by kernel_rfl) (Gi.reads _)):GF Tryz.prog (n+4) 39 (R3 Gi.enc) (Jc 32 Gi.wf)) _ g1
 simp only [Kr] at e
 subst e e0 e1
 subst h1
 subst h0
 exact ⟨⟨x0,x1⟩,rfl,w0,w1⟩
def GD.wf (x:GD):Prop:=(GP .i64 x.From)∧(GP .i64 x.Delta)
theorem GD.reads (n:Nat):GF Tryz.prog (n+2) 307 GD.enc GD.wf:=fun c h=>by
 have h:=G4 Tryz.underlying307 h
 obtain ⟨a0,b0,h0,g0,h⟩:=h
 obtain ⟨a1,b1,h1,g1,h⟩:=h
 have e:=h
 obtain ⟨x0,e0,w0⟩:=((GM Tryz.underlying3):GF Tryz.prog (n+1) 3 (fun z:Int=>[jI z]) (GP .i64)) _ g0
 obtain ⟨x1,e1,w1⟩:=((GM Tryz.underlying3):GF Tryz.prog (n+1) 3 (fun z:Int=>[jI z]) (GP .i64)) _ g1
 simp only [Kr] at e
 subst e e0 e1
 subst h1
 subst h0
 exact ⟨⟨x0,x1⟩,rfl,w0,w1⟩
def Gn.wf (x:Gn):Prop:=(GP .i64 x.From)∧(GP .i64 x.To)
theorem Gn.reads (n:Nat):GF Tryz.prog (n+2) 61 Gn.enc Gn.wf:=fun c h=>by
 have h:=G4 Tryz.underlying61 h
 obtain ⟨a0,b0,h0,g0,h⟩:=h
 obtain ⟨a1,b1,h1,g1,h⟩:=h
 have e:=h
 obtain ⟨x0,e0,w0⟩:=((GM Tryz.underlying3):GF Tryz.prog (n+1) 3 (fun z:Int=>[jI z]) (GP .i64)) _ g0
 obtain ⟨x1,e1,w1⟩:=((GM Tryz.underlying3):GF Tryz.prog (n+1) 3 (fun z:Int=>[jI z]) (GP .i64)) _ g1
 simp only [Kr] at e
 subst e e0 e1
 subst h1
 subst h0
 exact ⟨⟨x0,x1⟩,rfl,w0,w1⟩
def Gl.wf (x:Gl):Prop:=(JB x.Name)∧(JB x.Point)∧(GP .i64 x.Kind)∧(GP .i64 x.Lane)∧(Jc 16 GD.wf x.Offsets)∧(Jc 16 Gn.wf x.Down)
theorem Gl.reads (n:Nat):GF Tryz.prog (n+4) 166 Gl.enc Gl.wf:=fun c h=>by
 have h:=G4 Tryz.underlying166 h
 obtain ⟨a0,b0,h0,g0,h⟩:=h
 obtain ⟨a1,b1,h1,g1,h⟩:=h
 obtain ⟨a2,b2,h2,g2,h⟩:=h
 obtain ⟨a3,b3,h3,g3,h⟩:=h
 obtain ⟨a4,b4,h4,g4,h⟩:=h
 obtain ⟨a5,b5,h5,g5,h⟩:=h
 have e:=h
 obtain ⟨x0,e0,w0⟩:=((Hb Tryz.underlying9):GF Tryz.prog (n+3) 9 (fun s:List UInt8=>[.str s]) JB) _ g0
 obtain ⟨x1,e1,w1⟩:=((Hb Tryz.underlying9):GF Tryz.prog (n+3) 9 (fun s:List UInt8=>[.str s]) JB) _ g1
 obtain ⟨x2,e2,w2⟩:=((GM Tryz.underlying3):GF Tryz.prog (n+3) 3 (fun z:Int=>[jI z]) (GP .i64)) _ g2
 obtain ⟨x3,e3,w3⟩:=((GM Tryz.underlying3):GF Tryz.prog (n+3) 3 (fun z:Int=>[jI z]) (GP .i64)) _ g3
 obtain ⟨x4,e4,w4⟩:=((G2 Tryz.underlying163 (by kernel_rfl) (GD.reads _)):GF Tryz.prog (n+3) 163 (R3 GD.enc) (Jc 16 GD.wf)) _ g4
 obtain ⟨x5,e5,w5⟩:=((G2 Tryz.underlying164 (by kernel_rfl) (Gn.reads _)):GF Tryz.prog (n+3) 164 (R3 Gn.enc) (Jc 16 Gn.wf)) _ g5
 simp only [Kr] at e
 subst e e0 e1 e2 e3 e4 e5
 subst h5
 subst h4
 subst h3
 subst h2
 subst h1
 subst h0
 exact ⟨⟨x0,x1,x2,x3,x4,x5⟩,rfl,w0,w1,w2,w3,w4,w5⟩
def Gj.wf (x:Gj):Prop:=(GP .i64 x.From)∧(GP .i64 x.To)∧(GP .i64 x.Class)
theorem Gj.reads (n:Nat):GF Tryz.prog (n+2) 206 Gj.enc Gj.wf:=fun c h=>by
 have h:=G4 Tryz.underlying206 h
 obtain ⟨a0,b0,h0,g0,h⟩:=h
 obtain ⟨a1,b1,h1,g1,h⟩:=h
 obtain ⟨a2,b2,h2,g2,h⟩:=h
 have e:=h
 obtain ⟨x0,e0,w0⟩:=((GM Tryz.underlying3):GF Tryz.prog (n+1) 3 (fun z:Int=>[jI z]) (GP .i64)) _ g0
 obtain ⟨x1,e1,w1⟩:=((GM Tryz.underlying3):GF Tryz.prog (n+1) 3 (fun z:Int=>[jI z]) (GP .i64)) _ g1
 obtain ⟨x2,e2,w2⟩:=((GM Tryz.underlying3):GF Tryz.prog (n+1) 3 (fun z:Int=>[jI z]) (GP .i64)) _ g2
 simp only [Kr] at e
 subst e e0 e1 e2
 subst h2
 subst h1
 subst h0
 exact ⟨⟨x0,x1,x2⟩,rfl,w0,w1,w2⟩
def Gy.wf (x:Gy):Prop:=(JB x.Tag)∧(GP .i64 x.From)∧(GP .i64 x.State)
theorem Gy.reads (n:Nat):GF Tryz.prog (n+2) 208 Gy.enc Gy.wf:=fun c h=>by
 have h:=G4 Tryz.underlying208 h
 obtain ⟨a0,b0,h0,g0,h⟩:=h
 obtain ⟨a1,b1,h1,g1,h⟩:=h
 obtain ⟨a2,b2,h2,g2,h⟩:=h
 have e:=h
 obtain ⟨x0,e0,w0⟩:=((Hb Tryz.underlying9):GF Tryz.prog (n+1) 9 (fun s:List UInt8=>[.str s]) JB) _ g0
 obtain ⟨x1,e1,w1⟩:=((GM Tryz.underlying3):GF Tryz.prog (n+1) 3 (fun z:Int=>[jI z]) (GP .i64)) _ g1
 obtain ⟨x2,e2,w2⟩:=((GM Tryz.underlying3):GF Tryz.prog (n+1) 3 (fun z:Int=>[jI z]) (GP .i64)) _ g2
 simp only [Kr] at e
 subst e e0 e1 e2
 subst h2
 subst h1
 subst h0
 exact ⟨⟨x0,x1,x2⟩,rfl,w0,w1,w2⟩
def Gm.wf (x:Gm):Prop:=(GP .i64 x.Days)∧(GP .i64 x.From)∧(GP .i64 x.To)
theorem Gm.reads (n:Nat):GF Tryz.prog (n+2) 200 Gm.enc Gm.wf:=fun c h=>by
 have h:=G4 Tryz.underlying200 h
 obtain ⟨a0,b0,h0,g0,h⟩:=h
 obtain ⟨a1,b1,h1,g1,h⟩:=h
 obtain ⟨a2,b2,h2,g2,h⟩:=h
 have e:=h
 obtain ⟨x0,e0,w0⟩:=((GM Tryz.underlying3):GF Tryz.prog (n+1) 3 (fun z:Int=>[jI z]) (GP .i64)) _ g0
 obtain ⟨x1,e1,w1⟩:=((GM Tryz.underlying3):GF Tryz.prog (n+1) 3 (fun z:Int=>[jI z]) (GP .i64)) _ g1
 obtain ⟨x2,e2,w2⟩:=((GM Tryz.underlying3):GF Tryz.prog (n+1) 3 (fun z:Int=>[jI z]) (GP .i64)) _ g2
 simp only [Kr] at e
 subst e e0 e1 e2
 subst h2
 subst h1
 subst h0
 exact ⟨⟨x0,x1,x2⟩,rfl,w0,w1,w2⟩
def GV.wf (x:GV):Prop:=(JB x.Name)∧(Gm.wf x.Window)
theorem GV.reads (n:Nat):GF Tryz.prog (n+3) 309 GV.enc GV.wf:=fun c h=>by
 have h:=G4 Tryz.underlying309 h
 obtain ⟨a0,b0,h0,g0,h⟩:=h
 obtain ⟨a1,b1,h1,g1,h⟩:=h
 have e:=h
 obtain ⟨x0,e0,w0⟩:=((Hb Tryz.underlying9):GF Tryz.prog (n+2) 9 (fun s:List UInt8=>[.str s]) JB) _ g0
 obtain ⟨x1,e1,w1⟩:=((Gm.reads _):GF Tryz.prog (n+2) 200 Gm.enc Gm.wf) _ g1
 simp only [Kr] at e
 subst e e0 e1
 subst h1
 subst h0
 exact ⟨⟨x0,x1⟩,rfl,w0,w1⟩
def Gz.wf (x:Gz):Prop:=(JB x.From)∧(JB x.To)∧(GP .i64 x.Class)∧(JB x.Band)∧(GP .i64 x.Cents)
theorem Gz.reads (n:Nat):GF Tryz.prog (n+2) 168 Gz.enc Gz.wf:=fun c h=>by
 have h:=G4 Tryz.underlying168 h
 obtain ⟨a0,b0,h0,g0,h⟩:=h
 obtain ⟨a1,b1,h1,g1,h⟩:=h
 obtain ⟨a2,b2,h2,g2,h⟩:=h
 obtain ⟨a3,b3,h3,g3,h⟩:=h
 obtain ⟨a4,b4,h4,g4,h⟩:=h
 have e:=h
 obtain ⟨x0,e0,w0⟩:=((Hb Tryz.underlying9):GF Tryz.prog (n+1) 9 (fun s:List UInt8=>[.str s]) JB) _ g0
 obtain ⟨x1,e1,w1⟩:=((Hb Tryz.underlying9):GF Tryz.prog (n+1) 9 (fun s:List UInt8=>[.str s]) JB) _ g1
 obtain ⟨x2,e2,w2⟩:=((GM Tryz.underlying3):GF Tryz.prog (n+1) 3 (fun z:Int=>[jI z]) (GP .i64)) _ g2
 obtain ⟨x3,e3,w3⟩:=((Hb Tryz.underlying9):GF Tryz.prog (n+1) 9 (fun s:List UInt8=>[.str s]) JB) _ g3
 obtain ⟨x4,e4,w4⟩:=((GM Tryz.underlying3):GF Tryz.prog (n+1) 3 (fun z:Int=>[jI z]) (GP .i64)) _ g4
 simp only [Kr] at e
 subst e e0 e1 e2 e3 e4
 subst h4
 subst h3
 subst h2
 subst h1
 subst h0
 exact ⟨⟨x0,x1,x2,x3,x4⟩,rfl,w0,w1,w2,w3,w4⟩
def Gf.wf (x:Gf):Prop:=(Gn.wf x.Valid)∧(Jc 40 GV.wf x.Bands)∧(Jc 64 Gz.wf x.Rates)
theorem Gf.reads (n:Nat):GF Tryz.prog (n+5) 65 Gf.enc Gf.wf:=fun c h=>by
 have h:=G4 Tryz.underlying65 h
 obtain ⟨a0,b0,h0,g0,h⟩:=h
 obtain ⟨a1,b1,h1,g1,h⟩:=h
 obtain ⟨a2,b2,h2,g2,h⟩:=h
 have e:=h
 obtain ⟨x0,e0,w0⟩:=((Gn.reads _):GF Tryz.prog (n+4) 61 Gn.enc Gn.wf) _ g0
 obtain ⟨x1,e1,w1⟩:=((G2 Tryz.underlying62 (by kernel_rfl) (GV.reads _)):GF Tryz.prog (n+4) 62 (R3 GV.enc) (Jc 40 GV.wf)) _ g1
 obtain ⟨x2,e2,w2⟩:=((G2 Tryz.underlying63 (by kernel_rfl) (Gz.reads _)):GF Tryz.prog (n+4) 63 (R3 Gz.enc) (Jc 64 Gz.wf)) _ g2
 simp only [Kr] at e
 subst e e0 e1 e2
 subst h2
 subst h1
 subst h0
 exact ⟨⟨x0,x1,x2⟩,rfl,w0,w1,w2⟩
def GJ.wf (x:GJ):Prop:=(GP .i64 x.Period)∧(Jc 8 (GP .i64) x.Up)∧(Jc 8 (GP .i64) x.Down)∧(Jc 8 (GP .i64) x.Parts)
theorem GJ.reads (n:Nat):GF Tryz.prog (n+3) 48 GJ.enc GJ.wf:=fun c h=>by
 have h:=G4 Tryz.underlying48 h
 obtain ⟨a0,b0,h0,g0,h⟩:=h
 obtain ⟨a1,b1,h1,g1,h⟩:=h
 obtain ⟨a2,b2,h2,g2,h⟩:=h
 obtain ⟨a3,b3,h3,g3,h⟩:=h
 have e:=h
 obtain ⟨x0,e0,w0⟩:=((GM Tryz.underlying3):GF Tryz.prog (n+2) 3 (fun z:Int=>[jI z]) (GP .i64)) _ g0
 obtain ⟨x1,e1,w1⟩:=((G2 Tryz.underlying46 (by kernel_rfl) (GM Tryz.underlying3)):GF Tryz.prog (n+2) 46 (R3 (fun z:Int=>[jI z])) (Jc 8 (GP .i64))) _ g1
 obtain ⟨x2,e2,w2⟩:=((G2 Tryz.underlying46 (by kernel_rfl) (GM Tryz.underlying3)):GF Tryz.prog (n+2) 46 (R3 (fun z:Int=>[jI z])) (Jc 8 (GP .i64))) _ g2
 obtain ⟨x3,e3,w3⟩:=((G2 Tryz.underlying46 (by kernel_rfl) (GM Tryz.underlying3)):GF Tryz.prog (n+2) 46 (R3 (fun z:Int=>[jI z])) (Jc 8 (GP .i64))) _ g3
 simp only [Kr] at e
 subst e e0 e1 e2 e3
 subst h3
 subst h2
 subst h1
 subst h0
 exact ⟨⟨x0,x1,x2,x3⟩,rfl,w0,w1,w2,w3⟩
def Gh.wf (x:Gh):Prop:=(JB x.Name)∧(GP .i64 x.Kind)∧(GP .i64 x.Amount)∧(JB x.Group)∧(JB x.System)∧(GP .i64 x.Class)∧(Gm.wf x.Window)∧(GP .i64 x.Least)
theorem Gh.reads (n:Nat):GF Tryz.prog (n+3) 214 Gh.enc Gh.wf:=fun c h=>by
 have h:=G4 Tryz.underlying214 h
 obtain ⟨a0,b0,h0,g0,h⟩:=h
 obtain ⟨a1,b1,h1,g1,h⟩:=h
 obtain ⟨a2,b2,h2,g2,h⟩:=h
 obtain ⟨a3,b3,h3,g3,h⟩:=h
 obtain ⟨a4,b4,h4,g4,h⟩:=h
 obtain ⟨a5,b5,h5,g5,h⟩:=h
 obtain ⟨a6,b6,h6,g6,h⟩:=h
 obtain ⟨a7,b7,h7,g7,h⟩:=h
 have e:=h
 obtain ⟨x0,e0,w0⟩:=((Hb Tryz.underlying9):GF Tryz.prog (n+2) 9 (fun s:List UInt8=>[.str s]) JB) _ g0
 obtain ⟨x1,e1,w1⟩:=((GM Tryz.underlying3):GF Tryz.prog (n+2) 3 (fun z:Int=>[jI z]) (GP .i64)) _ g1
 obtain ⟨x2,e2,w2⟩:=((GM Tryz.underlying3):GF Tryz.prog (n+2) 3 (fun z:Int=>[jI z]) (GP .i64)) _ g2
 obtain ⟨x3,e3,w3⟩:=((Hb Tryz.underlying9):GF Tryz.prog (n+2) 9 (fun s:List UInt8=>[.str s]) JB) _ g3
 obtain ⟨x4,e4,w4⟩:=((Hb Tryz.underlying9):GF Tryz.prog (n+2) 9 (fun s:List UInt8=>[.str s]) JB) _ g4
 obtain ⟨x5,e5,w5⟩:=((GM Tryz.underlying3):GF Tryz.prog (n+2) 3 (fun z:Int=>[jI z]) (GP .i64)) _ g5
 obtain ⟨x6,e6,w6⟩:=((Gm.reads _):GF Tryz.prog (n+2) 200 Gm.enc Gm.wf) _ g6
 obtain ⟨x7,e7,w7⟩:=((GM Tryz.underlying3):GF Tryz.prog (n+2) 3 (fun z:Int=>[jI z]) (GP .i64)) _ g7
 simp only [Kr] at e
 subst e e0 e1 e2 e3 e4 e5 e6 e7
 subst h7
 subst h6
 subst h5
 subst h4
 subst h3
 subst h2
 subst h1
 subst h0
 exact ⟨⟨x0,x1,x2,x3,x4,x5,x6,x7⟩,rfl,w0,w1,w2,w3,w4,w5,w6,w7⟩
def Hi.wf (x:Hi):Prop:=(JB x.Name)∧(JB x.System)∧(GP .i64 x.Days)∧(GP .i64 x.Cents)
theorem Hi.reads (n:Nat):GF Tryz.prog (n+2) 131 Hi.enc Hi.wf:=fun c h=>by
 have h:=G4 Tryz.underlying131 h
 obtain ⟨a0,b0,h0,g0,h⟩:=h
 obtain ⟨a1,b1,h1,g1,h⟩:=h
 obtain ⟨a2,b2,h2,g2,h⟩:=h
 obtain ⟨a3,b3,h3,g3,h⟩:=h
 have e:=h
 obtain ⟨x0,e0,w0⟩:=((Hb Tryz.underlying9):GF Tryz.prog (n+1) 9 (fun s:List UInt8=>[.str s]) JB) _ g0
 obtain ⟨x1,e1,w1⟩:=((Hb Tryz.underlying9):GF Tryz.prog (n+1) 9 (fun s:List UInt8=>[.str s]) JB) _ g1
 obtain ⟨x2,e2,w2⟩:=((GM Tryz.underlying3):GF Tryz.prog (n+1) 3 (fun z:Int=>[jI z]) (GP .i64)) _ g2
 obtain ⟨x3,e3,w3⟩:=((GM Tryz.underlying3):GF Tryz.prog (n+1) 3 (fun z:Int=>[jI z]) (GP .i64)) _ g3
 simp only [Kr] at e
 subst e e0 e1 e2 e3
 subst h3
 subst h2
 subst h1
 subst h0
 exact ⟨⟨x0,x1,x2,x3⟩,rfl,w0,w1,w2,w3⟩
def Gv.wf (x:Gv):Prop:=(GP .i64 x.Upto)∧(GP .i64 x.Unit)∧(GP .i64 x.Cents)
theorem Gv.reads (n:Nat):GF Tryz.prog (n+2) 375 Gv.enc Gv.wf:=fun c h=>by
 have h:=G4 Tryz.underlying375 h
 obtain ⟨a0,b0,h0,g0,h⟩:=h
 obtain ⟨a1,b1,h1,g1,h⟩:=h
 obtain ⟨a2,b2,h2,g2,h⟩:=h
 have e:=h
 obtain ⟨x0,e0,w0⟩:=((GM Tryz.underlying3):GF Tryz.prog (n+1) 3 (fun z:Int=>[jI z]) (GP .i64)) _ g0
 obtain ⟨x1,e1,w1⟩:=((GM Tryz.underlying3):GF Tryz.prog (n+1) 3 (fun z:Int=>[jI z]) (GP .i64)) _ g1
 obtain ⟨x2,e2,w2⟩:=((GM Tryz.underlying3):GF Tryz.prog (n+1) 3 (fun z:Int=>[jI z]) (GP .i64)) _ g2
 simp only [Kr] at e
 subst e e0 e1 e2
 subst h2
 subst h1
 subst h0
 exact ⟨⟨x0,x1,x2⟩,rfl,w0,w1,w2⟩
def Gg.wf (x:Gg):Prop:=(JB x.Name)∧(Jc 24 Gm.wf x.Hours)∧(Jc 24 Gv.wf x.Steps)∧(GP .i64 x.Grace)∧(GP .i64 x.Free)∧(GP .i64 x.DayMax)∧(GP .i64 x.MaxStay)
theorem Gg.reads (n:Nat):GF Tryz.prog (n+4) 192 Gg.enc Gg.wf:=fun c h=>by
 have h:=G4 Tryz.underlying192 h
 obtain ⟨a0,b0,h0,g0,h⟩:=h
 obtain ⟨a1,b1,h1,g1,h⟩:=h
 obtain ⟨a2,b2,h2,g2,h⟩:=h
 obtain ⟨a3,b3,h3,g3,h⟩:=h
 obtain ⟨a4,b4,h4,g4,h⟩:=h
 obtain ⟨a5,b5,h5,g5,h⟩:=h
 obtain ⟨a6,b6,h6,g6,h⟩:=h
 have e:=h
 obtain ⟨x0,e0,w0⟩:=((Hb Tryz.underlying9):GF Tryz.prog (n+3) 9 (fun s:List UInt8=>[.str s]) JB) _ g0
 obtain ⟨x1,e1,w1⟩:=((G2 Tryz.underlying133 (by kernel_rfl) (Gm.reads _)):GF Tryz.prog (n+3) 133 (R3 Gm.enc) (Jc 24 Gm.wf)) _ g1
 obtain ⟨x2,e2,w2⟩:=((G2 Tryz.underlying190 (by kernel_rfl) (Gv.reads _)):GF Tryz.prog (n+3) 190 (R3 Gv.enc) (Jc 24 Gv.wf)) _ g2
 obtain ⟨x3,e3,w3⟩:=((GM Tryz.underlying3):GF Tryz.prog (n+3) 3 (fun z:Int=>[jI z]) (GP .i64)) _ g3
 obtain ⟨x4,e4,w4⟩:=((GM Tryz.underlying3):GF Tryz.prog (n+3) 3 (fun z:Int=>[jI z]) (GP .i64)) _ g4
 obtain ⟨x5,e5,w5⟩:=((GM Tryz.underlying3):GF Tryz.prog (n+3) 3 (fun z:Int=>[jI z]) (GP .i64)) _ g5
 obtain ⟨x6,e6,w6⟩:=((GM Tryz.underlying3):GF Tryz.prog (n+3) 3 (fun z:Int=>[jI z]) (GP .i64)) _ g6
 simp only [Kr] at e
 subst e e0 e1 e2 e3 e4 e5 e6
 subst h6
 subst h5
 subst h4
 subst h3
 subst h2
 subst h1
 subst h0
 exact ⟨⟨x0,x1,x2,x3,x4,x5,x6⟩,rfl,w0,w1,w2,w3,w4,w5,w6⟩
def GH.wf (x:GH):Prop:=(JB x.Name)∧(JB x.Zone)∧(Jc 16 JB x.Plates)∧(Gn.wf x.Valid)∧(Jc 24 Gm.wf x.Hours)∧(GP .i64 x.Most)
theorem GH.reads (n:Nat):GF Tryz.prog (n+4) 135 GH.enc GH.wf:=fun c h=>by
 have h:=G4 Tryz.underlying135 h
 obtain ⟨a0,b0,h0,g0,h⟩:=h
 obtain ⟨a1,b1,h1,g1,h⟩:=h
 obtain ⟨a2,b2,h2,g2,h⟩:=h
 obtain ⟨a3,b3,h3,g3,h⟩:=h
 obtain ⟨a4,b4,h4,g4,h⟩:=h
 obtain ⟨a5,b5,h5,g5,h⟩:=h
 have e:=h
 obtain ⟨x0,e0,w0⟩:=((Hb Tryz.underlying9):GF Tryz.prog (n+3) 9 (fun s:List UInt8=>[.str s]) JB) _ g0
 obtain ⟨x1,e1,w1⟩:=((Hb Tryz.underlying9):GF Tryz.prog (n+3) 9 (fun s:List UInt8=>[.str s]) JB) _ g1
 obtain ⟨x2,e2,w2⟩:=((G2 Tryz.underlying31 (by kernel_rfl) (Hb Tryz.underlying9)):GF Tryz.prog (n+3) 31 (R3 (fun s:List UInt8=>[.str s])) (Jc 16 JB)) _ g2
 obtain ⟨x3,e3,w3⟩:=((Gn.reads _):GF Tryz.prog (n+3) 61 Gn.enc Gn.wf) _ g3
 obtain ⟨x4,e4,w4⟩:=((G2 Tryz.underlying133 (by kernel_rfl) (Gm.reads _)):GF Tryz.prog (n+3) 133 (R3 Gm.enc) (Jc 24 Gm.wf)) _ g4
 obtain ⟨x5,e5,w5⟩:=((GM Tryz.underlying3):GF Tryz.prog (n+3) 3 (fun z:Int=>[jI z]) (GP .i64)) _ g5
 simp only [Kr] at e
 subst e e0 e1 e2 e3 e4 e5
 subst h5
 subst h4
 subst h3
 subst h2
 subst h1
 subst h0
 exact ⟨⟨x0,x1,x2,x3,x4,x5⟩,rfl,w0,w1,w2,w3,w4,w5⟩
def Gk.wf (x:Gk):Prop:=(JB x.Tag)∧(JB x.Plate)∧(Gn.wf x.Time)
theorem Gk.reads (n:Nat):GF Tryz.prog (n+3) 224 Gk.enc Gk.wf:=fun c h=>by
 have h:=G4 Tryz.underlying224 h
 obtain ⟨a0,b0,h0,g0,h⟩:=h
 obtain ⟨a1,b1,h1,g1,h⟩:=h
 obtain ⟨a2,b2,h2,g2,h⟩:=h
 have e:=h
 obtain ⟨x0,e0,w0⟩:=((Hb Tryz.underlying9):GF Tryz.prog (n+2) 9 (fun s:List UInt8=>[.str s]) JB) _ g0
 obtain ⟨x1,e1,w1⟩:=((Hb Tryz.underlying9):GF Tryz.prog (n+2) 9 (fun s:List UInt8=>[.str s]) JB) _ g1
 obtain ⟨x2,e2,w2⟩:=((Gn.reads _):GF Tryz.prog (n+2) 61 Gn.enc Gn.wf) _ g2
 simp only [Kr] at e
 subst e e0 e1 e2
 subst h2
 subst h1
 subst h0
 exact ⟨⟨x0,x1,x2⟩,rfl,w0,w1,w2⟩
def Jl.wf (x:Jl):Prop:=(GP .i64 x.Below)∧(GP .i64 x.Cents)∧(GP .i64 x.Tries)∧(GP .i64 x.Wait)
theorem Jl.reads (n:Nat):GF Tryz.prog (n+2) 219 Jl.enc Jl.wf:=fun c h=>by
 have h:=G4 Tryz.underlying219 h
 obtain ⟨a0,b0,h0,g0,h⟩:=h
 obtain ⟨a1,b1,h1,g1,h⟩:=h
 obtain ⟨a2,b2,h2,g2,h⟩:=h
 obtain ⟨a3,b3,h3,g3,h⟩:=h
 have e:=h
 obtain ⟨x0,e0,w0⟩:=((GM Tryz.underlying3):GF Tryz.prog (n+1) 3 (fun z:Int=>[jI z]) (GP .i64)) _ g0
 obtain ⟨x1,e1,w1⟩:=((GM Tryz.underlying3):GF Tryz.prog (n+1) 3 (fun z:Int=>[jI z]) (GP .i64)) _ g1
 obtain ⟨x2,e2,w2⟩:=((GM Tryz.underlying3):GF Tryz.prog (n+1) 3 (fun z:Int=>[jI z]) (GP .i64)) _ g2
 obtain ⟨x3,e3,w3⟩:=((GM Tryz.underlying3):GF Tryz.prog (n+1) 3 (fun z:Int=>[jI z]) (GP .i64)) _ g3
 simp only [Kr] at e
 subst e e0 e1 e2 e3
 subst h3
 subst h2
 subst h1
 subst h0
 exact ⟨⟨x0,x1,x2,x3⟩,rfl,w0,w1,w2,w3⟩
def Gd.wf (x:Gd):Prop:=(JB x.Name)∧(JB x.Agency)∧True∧(Jc 48 Gk.wf x.Owned)∧(Jl.wf x.Refill)∧True
theorem Gd.reads (n:Nat):GF Tryz.prog (n+5) 221 Gd.enc Gd.wf:=fun c h=>by
 have h:=G4 Tryz.underlying221 h
 obtain ⟨a0,b0,h0,g0,h⟩:=h
 obtain ⟨a1,b1,h1,g1,h⟩:=h
 obtain ⟨a2,b2,h2,g2,h⟩:=h
 obtain ⟨a3,b3,h3,g3,h⟩:=h
 obtain ⟨a4,b4,h4,g4,h⟩:=h
 obtain ⟨a5,b5,h5,g5,h⟩:=h
 have e:=h
 obtain ⟨x0,e0,w0⟩:=((Hb Tryz.underlying9):GF Tryz.prog (n+4) 9 (fun s:List UInt8=>[.str s]) JB) _ g0
 obtain ⟨x1,e1,w1⟩:=((Hb Tryz.underlying9):GF Tryz.prog (n+4) 9 (fun s:List UInt8=>[.str s]) JB) _ g1
 obtain ⟨x2,e2,w2⟩:=((Ge3 Tryz.underlying4):GF Tryz.prog (n+4) 4 (fun b:Bool=>[.bool b]) (fun _=>True)) _ g2
 obtain ⟨x3,e3,w3⟩:=((G2 Tryz.underlying217 (by kernel_rfl) (Gk.reads _)):GF Tryz.prog (n+4) 217 (R3 Gk.enc) (Jc 48 Gk.wf)) _ g3
 obtain ⟨x4,e4,w4⟩:=((Jl.reads _):GF Tryz.prog (n+4) 219 Jl.enc Jl.wf) _ g4
 obtain ⟨x5,e5,w5⟩:=((Ge3 Tryz.underlying4):GF Tryz.prog (n+4) 4 (fun b:Bool=>[.bool b]) (fun _=>True)) _ g5
 simp only [Kr] at e
 subst e e0 e1 e2 e3 e4 e5
 subst h5
 subst h4
 subst h3
 subst h2
 subst h1
 subst h0
 exact ⟨⟨x0,x1,x2,x3,x4,x5⟩,rfl,w0,w1,w2,w3,w4,w5⟩
def GA.wf (x:GA):Prop:=(GP .i64 x.Kind)∧(GP .i64 x.Part)
theorem GA.reads (n:Nat):GF Tryz.prog (n+2) 226 GA.enc GA.wf:=fun c h=>by
 have h:=G4 Tryz.underlying226 h
 obtain ⟨a0,b0,h0,g0,h⟩:=h
 obtain ⟨a1,b1,h1,g1,h⟩:=h
 have e:=h
 obtain ⟨x0,e0,w0⟩:=((GM Tryz.underlying3):GF Tryz.prog (n+1) 3 (fun z:Int=>[jI z]) (GP .i64)) _ g0
 obtain ⟨x1,e1,w1⟩:=((GM Tryz.underlying3):GF Tryz.prog (n+1) 3 (fun z:Int=>[jI z]) (GP .i64)) _ g1
 simp only [Kr] at e
 subst e e0 e1
 subst h1
 subst h0
 exact ⟨⟨x0,x1⟩,rfl,w0,w1⟩
def GN.wf (x:GN):Prop:=(Jc 8 (GP .i64) x.Days)∧(Jc 8 (GP .i64) x.Fees)∧(GP .i64 x.Limit)
theorem GN.reads (n:Nat):GF Tryz.prog (n+3) 56 GN.enc GN.wf:=fun c h=>by
 have h:=G4 Tryz.underlying56 h
 obtain ⟨a0,b0,h0,g0,h⟩:=h
 obtain ⟨a1,b1,h1,g1,h⟩:=h
 obtain ⟨a2,b2,h2,g2,h⟩:=h
 have e:=h
 obtain ⟨x0,e0,w0⟩:=((G2 Tryz.underlying46 (by kernel_rfl) (GM Tryz.underlying3)):GF Tryz.prog (n+2) 46 (R3 (fun z:Int=>[jI z])) (Jc 8 (GP .i64))) _ g0
 obtain ⟨x1,e1,w1⟩:=((G2 Tryz.underlying46 (by kernel_rfl) (GM Tryz.underlying3)):GF Tryz.prog (n+2) 46 (R3 (fun z:Int=>[jI z])) (Jc 8 (GP .i64))) _ g1
 obtain ⟨x2,e2,w2⟩:=((GM Tryz.underlying3):GF Tryz.prog (n+2) 3 (fun z:Int=>[jI z]) (GP .i64)) _ g2
 simp only [Kr] at e
 subst e e0 e1 e2
 subst h2
 subst h1
 subst h0
 exact ⟨⟨x0,x1,x2⟩,rfl,w0,w1,w2⟩
def Gr.wf (x:Gr):Prop:=(GP .i64 x.Purpose)∧(GP .i64 x.Seconds)∧(GP .i64 x.Least)
theorem Gr.reads (n:Nat):GF Tryz.prog (n+2) 228 Gr.enc Gr.wf:=fun c h=>by
 have h:=G4 Tryz.underlying228 h
 obtain ⟨a0,b0,h0,g0,h⟩:=h
 obtain ⟨a1,b1,h1,g1,h⟩:=h
 obtain ⟨a2,b2,h2,g2,h⟩:=h
 have e:=h
 obtain ⟨x0,e0,w0⟩:=((GM Tryz.underlying3):GF Tryz.prog (n+1) 3 (fun z:Int=>[jI z]) (GP .i64)) _ g0
 obtain ⟨x1,e1,w1⟩:=((GM Tryz.underlying3):GF Tryz.prog (n+1) 3 (fun z:Int=>[jI z]) (GP .i64)) _ g1
 obtain ⟨x2,e2,w2⟩:=((GM Tryz.underlying3):GF Tryz.prog (n+1) 3 (fun z:Int=>[jI z]) (GP .i64)) _ g2
 simp only [Kr] at e
 subst e e0 e1 e2
 subst h2
 subst h1
 subst h0
 exact ⟨⟨x0,x1,x2⟩,rfl,w0,w1,w2⟩
def GB.wf (x:GB):Prop:=(Ga.wf x.Top)∧(Jc 96 Gl.wf x.Devices)∧(Jc 24 Gj.wf x.Classes)∧(Jc 32 Gy.wf x.Tags)∧(GP .i64 x.Gap)∧(GP .i64 x.Weak)∧(Jc 64 Gf.wf x.Tariffs)∧(GJ.wf x.Scale)∧(Jc 104 Gh.wf x.Discounts)∧(Jc 48 Hi.wf x.Caps)∧(Jc 96 Gg.wf x.Zones)∧(Jc 104 GH.wf x.Permits)∧(Jc 104 Gd.wf x.Accounts)∧(Jc 16 GA.wf x.Reliefs)∧(Jc 8 (GP .i64) x.Holidays)∧(GN.wf x.Law)∧(Jc 24 Gr.wf x.Keeping)∧(JB x.Agency)
theorem GB.reads (n:Nat):GF Tryz.prog (n+7) 59 GB.enc GB.wf:=fun c h=>by
 have h:=G4 Tryz.underlying59 h
 obtain ⟨a0,b0,h0,g0,h⟩:=h
 obtain ⟨a1,b1,h1,g1,h⟩:=h
 obtain ⟨a2,b2,h2,g2,h⟩:=h
 obtain ⟨a3,b3,h3,g3,h⟩:=h
 obtain ⟨a4,b4,h4,g4,h⟩:=h
 obtain ⟨a5,b5,h5,g5,h⟩:=h
 obtain ⟨a6,b6,h6,g6,h⟩:=h
 obtain ⟨a7,b7,h7,g7,h⟩:=h
 obtain ⟨a8,b8,h8,g8,h⟩:=h
 obtain ⟨a9,b9,h9,g9,h⟩:=h
 obtain ⟨a10,b10,h10,g10,h⟩:=h
 obtain ⟨a11,b11,h11,g11,h⟩:=h
 obtain ⟨a12,b12,h12,g12,h⟩:=h
 obtain ⟨a13,b13,h13,g13,h⟩:=h
 obtain ⟨a14,b14,h14,g14,h⟩:=h
 obtain ⟨a15,b15,h15,g15,h⟩:=h
 obtain ⟨a16,b16,h16,g16,h⟩:=h
 obtain ⟨a17,b17,h17,g17,h⟩:=h
 have e:=h
 obtain ⟨x0,e0,w0⟩:=((Ga.reads _):GF Tryz.prog (n+6) 41 Ga.enc Ga.wf) _ g0
 obtain ⟨x1,e1,w1⟩:=((G2 Tryz.underlying42 (by kernel_rfl) (Gl.reads _)):GF Tryz.prog (n+6) 42 (R3 Gl.enc) (Jc 96 Gl.wf)) _ g1
 obtain ⟨x2,e2,w2⟩:=((G2 Tryz.underlying43 (by kernel_rfl) (Gj.reads _)):GF Tryz.prog (n+6) 43 (R3 Gj.enc) (Jc 24 Gj.wf)) _ g2
 obtain ⟨x3,e3,w3⟩:=((G2 Tryz.underlying44 (by kernel_rfl) (Gy.reads _)):GF Tryz.prog (n+6) 44 (R3 Gy.enc) (Jc 32 Gy.wf)) _ g3
 obtain ⟨x4,e4,w4⟩:=((GM Tryz.underlying3):GF Tryz.prog (n+6) 3 (fun z:Int=>[jI z]) (GP .i64)) _ g4
 obtain ⟨x5,e5,w5⟩:=((GM Tryz.underlying3):GF Tryz.prog (n+6) 3 (fun z:Int=>[jI z]) (GP .i64)) _ g5
 obtain ⟨x6,e6,w6⟩:=((G2 Tryz.underlying45 (by kernel_rfl) (Gf.reads _)):GF Tryz.prog (n+6) 45 (R3 Gf.enc) (Jc 64 Gf.wf)) _ g6
 obtain ⟨x7,e7,w7⟩:=((GJ.reads _):GF Tryz.prog (n+6) 48 GJ.enc GJ.wf) _ g7
 obtain ⟨x8,e8,w8⟩:=((G2 Tryz.underlying49 (by kernel_rfl) (Gh.reads _)):GF Tryz.prog (n+6) 49 (R3 Gh.enc) (Jc 104 Gh.wf)) _ g8
 obtain ⟨x9,e9,w9⟩:=((G2 Tryz.underlying50 (by kernel_rfl) (Hi.reads _)):GF Tryz.prog (n+6) 50 (R3 Hi.enc) (Jc 48 Hi.wf)) _ g9
 obtain ⟨x10,e10,w10⟩:=((G2 Tryz.underlying51 (by kernel_rfl) (Gg.reads _)):GF Tryz.prog (n+6) 51 (R3 Gg.enc) (Jc 96 Gg.wf)) _ g10
 obtain ⟨x11,e11,w11⟩:=((G2 Tryz.underlying52 (by kernel_rfl) (GH.reads _)):GF Tryz.prog (n+6) 52 (R3 GH.enc) (Jc 104 GH.wf)) _ g11
 obtain ⟨x12,e12,w12⟩:=((G2 Tryz.underlying53 (by kernel_rfl) (Gd.reads _)):GF Tryz.prog (n+6) 53 (R3 Gd.enc) (Jc 104 Gd.wf)) _ g12
 obtain ⟨x13,e13,w13⟩:=((G2 Tryz.underlying54 (by kernel_rfl) (GA.reads _)):GF Tryz.prog (n+6) 54 (R3 GA.enc) (Jc 16 GA.wf)) _ g13
 obtain ⟨x14,e14,w14⟩:=((G2 Tryz.underlying46 (by kernel_rfl) (GM Tryz.underlying3)):GF Tryz.prog (n+6) 46 (R3 (fun z:Int=>[jI z])) (Jc 8 (GP .i64))) _ g14
 obtain ⟨x15,e15,w15⟩:=((GN.reads _):GF Tryz.prog (n+6) 56 GN.enc GN.wf) _ g15
 obtain ⟨x16,e16,w16⟩:=((G2 Tryz.underlying57 (by kernel_rfl) (Gr.reads _)):GF Tryz.prog (n+6) 57 (R3 Gr.enc) (Jc 24 Gr.wf)) _ g16
 obtain ⟨x17,e17,w17⟩:=((Hb Tryz.underlying9):GF Tryz.prog (n+6) 9 (fun s:List UInt8=>[.str s]) JB) _ g17
 simp only [Kr] at e
 subst e e0 e1 e2 e3 e4 e5 e6 e7 e8 e9 e10 e11 e12 e13 e14 e15 e16 e17
 subst h17
 subst h16
 subst h15
 subst h14
 subst h13
 subst h12
 subst h11
 subst h10
 subst h9
 subst h8
 subst h7
 subst h6
 subst h5
 subst h4
 subst h3
 subst h2
 subst h1
 subst h0
 exact ⟨⟨x0,x1,x2,x3,x4,x5,x6,x7,x8,x9,x10,x11,x12,x13,x14,x15,x16,x17⟩,rfl,w0,w1,w2,w3,w4,w5,w6,w7,w8,w9,w10,w11,w12,w13,w14,w15,w16,w17⟩
end
end Go.Proofs.YtnlaiahcemckkaaGreatDoor.Av
